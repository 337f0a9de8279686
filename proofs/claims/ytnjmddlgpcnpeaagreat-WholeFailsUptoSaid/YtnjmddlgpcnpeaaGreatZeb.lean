/- Steps of the proof, joined: VMap, V7, V8, V9, V10. -/
import Derived.Test.YtnjmddlgpcnpeaaGreatZea
import Derived.Maps.RangeRun
import Derived.Maps.OwnSet
import Derived.Laws.StructEq
import Derived.Deep.LoopGhost
import Derived.Scope
namespace Go.Proofs.YtnjmddlgpcnpeaaGreat
open Go
section
open Go Go.RowKit
open Go.ChangeMaps (setBlock)
section
variable {P:Program} {w0:Fr} {G:Gh} {st:St} {w:World}
theorem leafs_isA {t:TypeId} {l:List Lf} (h:leafs P 8 t=some l):(isA P t=false∧∃ a,l=[a]∧((∃ k,a=.int k∧P.underlying t=some (.int k)) ∨ (a=.bool∧P.underlying t=some .bool) ∨ (a=.str∧P.underlying t=some .string))) ∨
    (isA P t=true∧((∃ fs,P.underlying t=some (.struct fs)) ∨ ∃ n e,P.underlying t=some (.array n e))):=by
  have hu:=leafs_u h
  unfold leafsU at hu
  split at hu
  · rename_i k hk; cases hu; exact .inl ⟨by simp [isA,hk],_,rfl,.inl ⟨k,rfl,hk⟩⟩
  · rename_i hk; cases hu; exact .inl ⟨by simp [isA,hk],_,rfl,.inr (.inl ⟨rfl,hk⟩)⟩
  · rename_i hk; cases hu; exact .inl ⟨by simp [isA,hk],_,rfl,.inr (.inr ⟨rfl,hk⟩)⟩
  · rename_i fs hk; exact .inr ⟨by simp [isA,hk],.inl ⟨fs,hk⟩⟩
  · rename_i m e hk; exact .inr ⟨by simp [isA,hk],.inr ⟨m,e,hk⟩⟩
  · cases hu
structure KeyW (P:Program) (t:TypeId) (l:List Lf) (d:V) (v:Value):Prop where
  xs:∃ xs:List Value,v=packW P t xs∧FitL l xs∧xs.length=d.cells.length∧fitsV l d.cells∧∀ G,∀ (i:Nat) (c:V) (u:Value),d.cells[i]?=some c→xs[i]?=some u→Rep1 G c u
theorem fits_rep {G H:Gh}:∀ {l:List Lf} {cs:List V} {us:List Value},fitsV l cs→us.length=cs.length→(∀ (i:Nat) (c:V) (v:Value),cs[i]?=some c→us[i]?=some v→Rep1 G c v) →
    ∀ (i:Nat) (c:V) (v:Value),cs[i]?=some c→us[i]?=some v→Rep1 H c v
  | [],[],us,_,hl,_,i,c,v,hc,hv=>by simp at hc
  | a :: l,c :: cs,[],_,hl,_,i,_,_,_,hv=>by simp at hl
  | a :: l,c :: cs,u :: us,h,hl,hr,0,c',v,hc,hv=>by
    have h0:=hr 0 c u rfl rfl
    simp at hc hv
    subst hc; subst hv
    unfold fitsV at h
    split at h
    · rename_i e1 e2; cases e1
    · rename_i e1 e2; cases e1; cases e2; rw [h0.sc_inv]; exact .sc _ rfl
    · rename_i e1 e2; cases e1; cases e2; rw [h0.sc_inv]; exact .sc _ rfl
    · rename_i e1 e2; cases e1; cases e2; rw [h0.sc_inv]; exact .sc _ rfl
    · exact h.elim
  | a :: l,c :: cs,u :: us,h,hl,hr,i + 1,c',v,hc,hv=>by
    have hrest:=fun (h':fitsV l cs)=>fits_rep (H:=H) h' (by simpa using hl:us.length=cs.length) (fun i c v hc hv=>hr (i + 1) c v (by simpa using hc) (by simpa using hv)) i c' v (by simpa using hc) (by simpa using hv)
    unfold fitsV at h
    split at h
    · rename_i e1 e2; cases e1
    · rename_i e1 e2; cases e1; cases e2; exact hrest h.2
    · rename_i e1 e2; cases e1; cases e2; exact hrest h
    · rename_i e1 e2; cases e1; cases e2; exact hrest h
    · exact h.elim
  | [],_ :: _,_,h,_,_,_,_,_,_,_=>by simp [fitsV] at h
  | a :: _,[],_,h,_,_,_,_,_,_,_=>by cases a <;> simp [fitsV] at h
theorem keyW {t:TypeId} {l:List Lf} {d:V} {v:Value} (hk:kOk (isA P t) l d) (hr:Rep1 G d v):KeyW P t l d v:=by
  unfold kOk at hk
  split at hk
  · rename_i u
    have:=hr.sc_inv
    subst this
    refine ⟨[v],by simp [packW,hk.1],fitsV_fit (G:=G) hk.2 rfl (fun i c w' hc hv=>?_),rfl,hk.2,fun H=>fits_rep (G:=G) hk.2 rfl (fun i c w' hc hv=>?_)⟩
    all_goals
      cases i with
      | zero=>simp [V.cells] at hc hv; subst hc; subst hv; exact hr
      | succ i=>simp at hv
  · rename_i cs
    cases hr with
    | agg _ vs hl h1 hr =>
      exact ⟨vs.toList,by simp [packW,hk.1],fitsV_fit (G:=G) hk.2 (by simp [hl]) (fun i c w' hc hv=>hr i c w' hc (by simpa using hv)),(Array.length_toList.trans hl:vs.toList.length=cs.length),hk.2,
        fun H=>fits_rep (G:=G) hk.2 (Array.length_toList.trans hl:vs.toList.length=cs.length) (fun i c w' hc hv=>hr i c w' hc (by simpa using hv))⟩
  · exact hk.elim
theorem checkKey_leafs (w:World) (em:Bool):∀ (n d:Nat) {t:TypeId} {l:List Lf},leafs P n t=some l→∀ xs:List Value,FitL l xs→(Instr.checkKey em (d + n) t (packW P t xs)).run P w=.ok () w
  | 0,d,t,l,h,xs,hx=>by simp [leafs] at h
  | n + 1,d,t,l,h,xs,hx=>by
    have hu:=leafs_u h
    obtain ⟨hl,_⟩:=leafs_len h
    rw [← Nat.add_assoc]
    unfold leafsU at hu
    split at hu
    · rename_i k hk
      cases hu
      obtain ⟨a,rfl⟩:=List.length_eq_one_iff.1 (show xs.length=1 by rw [hx.len]; rfl)
      have ha:=hx.1
      cases a <;> simp only [Lf.fit] at ha
      simp [Instr.checkKey,run_underlying hk,packW,isA,hk]
    · rename_i hk
      cases hu
      obtain ⟨a,rfl⟩:=List.length_eq_one_iff.1 (show xs.length=1 by rw [hx.len]; rfl)
      have ha:=hx.1
      cases a <;> simp only [Lf.fit] at ha
      simp [Instr.checkKey,run_underlying hk,packW,isA,hk]
    · rename_i hk
      cases hu
      obtain ⟨a,rfl⟩:=List.length_eq_one_iff.1 (show xs.length=1 by rw [hx.len]; rfl)
      have ha:=hx.1
      cases a <;> simp only [Lf.fit] at ha
      simp [Instr.checkKey,run_underlying hk,packW,isA,hk]
    · rename_i fs hk
      split at hu
      · have hloop:∀ (gs:List Field) (o:Nat) (l':List Lf),leafsF P (leafs P n) o gs=some l'→FitL l' (xs.drop o) →
            (forIn (m:=Sem) gs (⟨⟩:PUnit) fun f r=>do
              if f.name ≠ "_" then Instr.checkKey em (d + n) f.type (← part f.type xs.toArray f.offset)
              pure (ForInStep.yield ⟨⟩)).run P w=.ok ⟨⟩ w:=by
          intro gs
          induction gs with
          | nil=>intro o l' _ _; simp
          | cons f gs ih =>
            intro o l' hl' hf
            simp only [leafsF] at hl'
            split at hl'
            · rename_i hof
              simp only [Option.bind_eq_some_iff,Option.map_eq_some_iff] at hl'
              obtain ⟨a,ha,b,hb,rfl⟩:=hl'
              obtain ⟨hal,_⟩:=leafs_len ha
              obtain ⟨x1,x2⟩:=hf.split
              rw [hal] at x1 x2
              rw [List.drop_drop] at x2
              have p1:=part_leafs w ha xs.toArray o (by simpa using x1)
              have p2:=checkKey_leafs w em n d ha _ x1
              have p3:=ih _ b hb x2
              simp only [List.forIn_cons,Sem.run_bind,hof.2,ne_eq,not_false_eq_true,if_true,hof.1,p1,Result.andThen_ok,p2,Sem.run_pure]
              simpa using p3
            · cases hl'
        have:=hloop fs.toList 0 l hu (by simpa using hx)
        simp only [Instr.checkKey,Sem.run_bind,run_underlying hk,Result.andThen_ok,packW,isA,hk,if_true]
        rw [← Array.forIn_toList]
        simp only [] at this ⊢
        simp at this ⊢
        rw [this]
        rfl
      · cases hu
    · rename_i m e hk
      simp only [Option.map_eq_some_iff] at hu
      obtain ⟨l',hl',rfl⟩:=hu
      obtain ⟨hll,_⟩:=leafs_len hl'
      have hie:∃ i,P.info? e=some i:=by
        cases n with
        | zero=>simp [leafs] at hl'
        | succ n =>
          have:=leafs_u hl'
          unfold leafsU at this
          cases hue:P.underlying e with
          | none=>rw [hue] at this; cases this
          | some d=>exact info_of_underlying hue
      obtain ⟨i,hi⟩:=hie
      have hsz:=run_sizeOf w hi
      have hloop:∀ (q j:Nat),FitL (List.replicate q l').flatten (xs.drop (j * P.cellsOf e)) →
          (forIn (m:=Sem) (List.range' j q) (⟨⟩:PUnit) fun i r=>do
            Instr.checkKey em (d + n) e (← part e xs.toArray (i * (← sizeOf e)))
            pure (ForInStep.yield ⟨⟩)).run P w=.ok ⟨⟩ w:=by
        intro q
        induction q with
        | zero=>intro j _; simp
        | succ q ih =>
          intro j hf
          rw [List.replicate_succ,List.flatten_cons] at hf
          obtain ⟨x1,x2⟩:=hf.split
          rw [hll] at x1 x2
          rw [List.drop_drop,show j * P.cellsOf e + P.cellsOf e=(j + 1) * P.cellsOf e by rw [Nat.add_mul,Nat.one_mul]] at x2
          have p1:=part_leafs w hl' xs.toArray (j * P.cellsOf e) (by simpa using x1)
          have p2:=checkKey_leafs w em n d hl' _ x1
          have p3:=ih _ x2
          simp only [List.range'_succ,List.forIn_cons,Sem.run_bind,hsz,p1,Result.andThen_ok,p2,Sem.run_pure]
          simpa using p3
      have:=hloop m 0 (by simpa using hx)
      simp only [Instr.checkKey,Sem.run_bind,run_underlying hk,Result.andThen_ok,packW,isA,hk,if_true]
      simp [Std.Legacy.Range.forIn_eq_forIn_range',Std.Legacy.Range.size] at this ⊢
      rw [this]
      rfl
    · cases hu
def mfi (k:V):List (V × V × Nat)→Option Nat
  | []=>none
  | e :: es=>if eqV k.cells e.1.cells=true then some 0 else (mfi k es).map (· + 1)
theorem mfi_find (k:V):∀ es:List (V × V × Nat),mfind k es=(mfi k es).bind fun j=>(es[j]?).map (·.2.1)
  | []=>rfl
  | e :: es=>by
    simp only [mfind,mfi]
    split
    · rfl
    · rw [mfi_find k es]
      cases mfi k es <;> rfl
theorem mfi_set (k v:V) (c:Nat):∀ es:List (V × V × Nat),mset k v c es=match mfi k es with | some j=>es.modify j (fun e=>(k,v,e.2.2)) | none=>es ++ [(k,v,c)]
  | []=>rfl
  | e :: es=>by
    simp only [mset,mfi]
    split
    · rfl
    · rw [mfi_set k v c es]
      cases mfi k es <;> rfl
theorem mfi_del (k:V):∀ es:List (V × V × Nat),mdel k es=match mfi k es with | some j=>es.eraseIdx j | none=>es
  | []=>rfl
  | e :: es=>by
    simp only [mdel,mfi]
    split
    · rfl
    · rw [mfi_del k es]
      cases mfi k es <;> rfl
theorem mfi_lt {k:V}:∀ {es:List (V × V × Nat)} {j:Nat},mfi k es=some j→∃ e,es[j]?=some e∧eqV k.cells e.1.cells=true
  | [],j,h=>by cases h
  | e :: es,j,h=>by
    simp only [mfi] at h
    split at h
    · rename_i hc
      simp only [Option.some.injEq] at h
      subst h
      exact ⟨e,rfl,hc⟩
    · simp only [Option.map_eq_some_iff] at h
      obtain ⟨i,hi,rfl⟩:=h
      obtain ⟨e',h1,h2⟩:=mfi_lt hi
      exact ⟨e',by simpa using h1,h2⟩
theorem keyW_eq {t:TypeId} {l:List Lf} {d e:V} {u v:Value} (h:KeyW P t l d u) (k:KeyW P t l e v):∃ xs ys,u=packW P t xs∧v=packW P t ys∧FitL l xs∧FitL l ys∧eqV d.cells e.cells=eqW xs ys:=by
  obtain ⟨xs,h1,h2,h3,h4,h5⟩:=h.xs
  obtain ⟨ys,k1,k2,k3,k4,k5⟩:=k.xs
  exact ⟨xs,ys,h1,k1,h2,k2,eqV_eqW (G:=⟨fun _ _=>none,fun _=>none⟩) h4 k4 h3 k3 (h5 _) (k5 _)⟩
theorem eqW_true:∀ {l:List Lf} {xs ys:List Value},FitL l xs→FitL l ys→eqW xs ys=true→xs=ys
  | [],[],[],_,_,_=>rfl
  | a :: l,x :: xs,y :: ys,hx,hy,h=>by
    simp only [eqW,Bool.and_eq_true] at h
    rw [eqW_true hx.2 hy.2 h.2]
    congr 1
    have h1:=hx.1
    have h2:=hy.1
    cases a <;> cases x <;> simp only [Lf.fit] at h1 <;> cases y <;> simp only [Lf.fit] at h2 <;> have h3:=h.1 <;> simp only [eqW1] at h3
    · subst h1; subst h2; rw [eq_of_beq h3]
    · rw [eq_of_beq h3]
    · rw [string_beq,decide_eq_true_eq] at h3; rw [h3]
theorem fit_same (n:Nat):∀ {l:List Lf} {xs:List Value},FitL l xs→∀ x ∈ xs,Instr.sameBits n x x=true
  | [],[],_,x,hx=>by cases hx
  | a :: l,y :: xs,h,x,hx=>by
    rcases List.mem_cons.1 hx with e | e
    · subst e
      have h1:=h.1
      cases a <;> cases x <;> simp only [Lf.fit] at h1 <;> cases n <;> simp [Instr.sameBits,beq_toListBytes]
    · exact fit_same n h.2 x e
theorem stays_leafs {t:TypeId} {l:List Lf} {xs:List Value} (hl:leafs P 8 t=some l) (hx:FitL l xs) (w:World):(Instr.keyThatStays (packW P t xs) (packW P t xs)).run P w=.ok (packW P t xs) w:=by
  have:Instr.sameBits 10000 (packW P t xs) (packW P t xs)=true:=by
    unfold packW
    split
    · simp only [Instr.sameBits,beq_self_eq_true,Bool.true_and,List.all_eq_true]
      rintro ⟨a,b⟩ hab
      have:=List.of_mem_zip hab
      obtain ⟨i,hi⟩:=List.mem_iff_getElem?.1 hab
      rw [List.getElem?_zip_eq_some] at hi
      have e:a=b:=by have:=hi.1.symm.trans hi.2; simpa using this
      subst e
      exact fit_same 9999 hx a (by simpa using this.1)
    · obtain ⟨hll,hpos⟩:=leafs_len hl
      cases xs with
      | nil=>have:=hx.len; simp at this; omega
      | cons x xs=>exact fit_same 10000 hx x (by simp)
  unfold Instr.keyThatStays
  rw [if_pos this]
  rfl
theorem findAsking_leafs {t:TypeId} {l:List Lf} (hl:leafs P 8 t=some l) {k:V} {kv:Value} (hk:KeyW P t l k kv) (w:World):∀ (es:List (V × V × Nat)) (ms:List MapEntry) (i:Nat),ms.length=es.length→(∀ (j:Nat) (e:V × V × Nat) (m:MapEntry),es[j]?=some e→ms[j]?=some m→KeyW P t l e.1 m.key) →
    (Instr.findAsking t kv ms i).run P w=.ok ((mfi k es).bind fun j=>(ms[j]?).map fun m=>(i + j,m.val)) w
  | [],[],i,_,_=>by simp [Instr.findAsking,mfi]
  | e :: es,m :: ms,i,hlen,hks=>by
    obtain ⟨xs,ys,h1,h2,h3,h4,h5⟩:=keyW_eq hk (hks 0 e m rfl rfl)
    have hE:(Op.equal t kv m.key).run P w=.ok (eqW xs ys) w:=by rw [h1,h2]; exact equalIn_leafs (P:=P) w 8 9992 hl xs ys h3 h4
    have ih:=findAsking_leafs hl hk w es ms (i + 1) (by simpa using hlen) (fun j e m he hm=>hks (j + 1) e m (by simpa using he) (by simpa using hm))
    simp only [Instr.findAsking,Sem.run_bind,hE,Result.andThen_ok,mfi,h5]
    cases eqW xs ys with
    | true=>simp
    | false =>
      simp only [Bool.false_eq_true,if_false]
      rw [ih]
      cases mfi k es with
      | none=>rfl
      | some j =>
        simp only [Option.map_some,Option.bind_some,List.getElem?_cons_succ]
        cases ms[j]? with
        | none=>rfl
        | some m'=>simp only [Option.map_some]; rw [show i + 1 + j=i + (j + 1) by omega]
theorem sameNow_leafs {t:TypeId} {l:List Lf} (hl:leafs P 8 t=some l) (hA:isA P t=false) {d:TypeDesc} (hd:P.underlying t=some d) {xs ys:List Value} (hx:FitL l xs) (hy:FitL l ys):Instr.sameNow d (packW P t xs) (packW P t ys)=some (eqW xs ys):=by
  rcases leafs_isA hl with ⟨_,a,rfl,h⟩ | ⟨h,_⟩
  · obtain ⟨x,rfl⟩:=List.length_eq_one_iff.1 (show xs.length=1 by rw [hx.len]; rfl)
    obtain ⟨y,rfl⟩:=List.length_eq_one_iff.1 (show ys.length=1 by rw [hy.len]; rfl)
    have h1:=hx.1
    have h2:=hy.1
    rcases h with ⟨k,rfl,hk⟩ | ⟨rfl,hk⟩ | ⟨rfl,hk⟩
    all_goals
      rw [hd] at hk; cases hk
      cases x <;> simp only [Lf.fit] at h1
      cases y <;> simp only [Lf.fit] at h2
    · subst h1; subst h2
      simp [packW,hA,Instr.sameNow,eqW,eqW1]
    · simp [packW,hA,Instr.sameNow,eqW,eqW1]
    · rename_i a b
      simp only [packW,hA,Bool.false_eq_true,if_false,List.headD_cons,Instr.sameNow,eqW,eqW1,Bool.and_true,string_beq]
      rw [beq_toListBytes,string_beq]
  · rw [hA] at h; cases h
theorem findNow_leafs {t:TypeId} {l:List Lf} (hl:leafs P 8 t=some l) (hA:isA P t=false) {d:TypeDesc} (hd:P.underlying t=some d) {k:V} {kv:Value} (hk:KeyW P t l k kv):∀ (es:List (V × V × Nat)) (ms:List MapEntry) (i:Nat),ms.length=es.length→(∀ (j:Nat) (e:V × V × Nat) (m:MapEntry),es[j]?=some e→ms[j]?=some m→KeyW P t l e.1 m.key) →
    Instr.findNow d kv ms i=some ((mfi k es).bind fun j=>(ms[j]?).map fun m=>(i + j,m.val))
  | [],[],i,_,_=>by simp [Instr.findNow,mfi]
  | e :: es,m :: ms,i,hlen,hks=>by
    obtain ⟨xs,ys,h1,h2,h3,h4,h5⟩:=keyW_eq hk (hks 0 e m rfl rfl)
    have hE:Instr.sameNow d kv m.key=some (eqW xs ys):=by rw [h1,h2]; exact sameNow_leafs hl hA hd h3 h4
    have ih:=findNow_leafs hl hA hd hk es ms (i + 1) (by simpa using hlen) (fun j e m he hm=>hks (j + 1) e m (by simpa using he) (by simpa using hm))
    simp only [Instr.findNow,hE,mfi,h5]
    cases eqW xs ys with
    | true=>simp
    | false =>
      simp only [Bool.false_eq_true,if_false]
      rw [ih]
      cases mfi k es with
      | none=>rfl
      | some j =>
        simp only [Option.map_some,Option.bind_some,List.getElem?_cons_succ]
        cases ms[j]? with
        | none=>rfl
        | some m'=>simp only [Option.map_some]; rw [show i + 1 + j=i + (j + 1) by omega]
theorem findKey_leafs {t:TypeId} {l:List Lf} (hl:leafs P 8 t=some l) {k:V} {kv:Value} (hk:KeyW P t l k kv) (w:World) (es:List (V × V × Nat)) (ms:List MapEntry) (hlen:ms.length=es.length) (hks:∀ (j:Nat) (e:V × V × Nat) (m:MapEntry),es[j]?=some e→ms[j]?=some m→KeyW P t l e.1 m.key) :
    (Instr.findKey t kv ms).run P w=.ok ((mfi k es).bind fun j=>(ms[j]?).map fun m=>(j,m.val)) w:=by
  have hask:=findAsking_leafs hl hk w es ms 0 hlen hks
  simp only [Nat.zero_add] at hask
  rcases leafs_isA hl with ⟨hA,a,_,h⟩ | ⟨hA,h⟩
  · obtain ⟨d,hd⟩:∃ d,P.underlying t=some d:=by rcases h with ⟨_,_,h⟩ | ⟨_,h⟩ | ⟨_,h⟩ <;> exact ⟨_,h⟩
    have:=findNow_leafs hl hA hd hk es ms 0 hlen hks
    simp only [Nat.zero_add] at this
    simp only [Instr.findKey,Sem.run_bind,run_underlying hd,Result.andThen_ok,this,Sem.run_pure]
  · obtain ⟨d,hd,hn⟩:∃ d,P.underlying t=some d∧∀ a b,Instr.sameNow d a b=none:=by
      rcases h with ⟨fs,h⟩ | ⟨n,e,h⟩
      · exact ⟨_,h,fun a b=>by cases a <;> cases b <;> rfl⟩
      · exact ⟨_,h,fun a b=>by cases a <;> cases b <;> rfl⟩
    cases ms with
    | nil =>
      have:es=[]:=List.eq_nil_of_length_eq_zero (by simpa using hlen.symm)
      subst this
      simp [Instr.findKey,run_underlying hd,Instr.findNow,mfi]
    | cons m ms =>
      simp only [Instr.findKey,Sem.run_bind,run_underlying hd,Result.andThen_ok,Instr.findNow,hn]
      exact hask
theorem RepM.keys {t:TypeId} {l:List Lf} {es:List (V × V × Nat)} {ms:Array MapEntry} (h:RepM G (isA P t) l es ms):∀ (j:Nat) (e:V × V × Nat) (m:MapEntry),es[j]?=some e→ms.toList[j]?=some m→KeyW P t l e.1 m.key :=
  fun j e m he hm=>by
    obtain ⟨h1,h2,_⟩:=h.rep j e m he (by simpa using hm)
    exact keyW h1 h2
theorem zeroV_sound {t:TypeId} {z:V} (h:zeroV P t=some z) (w:World):∃ v,(zeroValue t).run P w=.ok v w∧Rep1 G z v:=by
  unfold zeroV at h
  split at h
  · rename_i i hi
    split at h
    · rename_i v hv
      split at h
      · rename_i hc
        simp only [Option.some.injEq] at h
        subst h
        exact ⟨v,by simp [zeroValue,typeInfo,hi,hv],ofVal_rep G hc⟩
      · cases h
    · cases h
  · cases h
theorem RepW.map (hw:RepW w0 G st w) {b:Nat} {ag:Bool} {lf:List Lf} {es:List (V × V × Nat)} {c:Nat} (hb:st.box b=some [.mp ag lf es c]):∃ ms,w.heap[b]?=some (.map ms c)∧RepM G ag lf es ms:=by
  have h:=(hw.box b _ hb).2.2.2.2
  generalize w.heap[b]?=o at h
  cases h with
  | cells vs e cs hl h1 hr =>
    obtain ⟨v,hv⟩:∃ v,vs[0]?=some v:=⟨_,Array.getElem?_eq_getElem (by simp at hl; omega)⟩
    have:=hr 0 _ v rfl hv
    cases this
  | map _ _ _ _ ms h=>exact ⟨ms,rfl,h⟩
theorem RepW.iter (hw:RepW w0 G st w) {b:Nat} {m:Option Nat} {since:Nat} {seen:List Nat} {last:Nat} (hb:st.box b=some [.it m since seen last]):w.heap[b]?=some (.mapIter m since seen.toArray last):=by
  have h:=(hw.box b _ hb).2.2.2.2
  generalize w.heap[b]?=o at h
  cases h with
  | cells vs e cs hl h1 hr =>
    obtain ⟨v,hv⟩:∃ v,vs[0]?=some v:=⟨_,Array.getElem?_eq_getElem (by simp at hl; omega)⟩
    have:=hr 0 _ v rfl hv
    cases this
  | iter _ _ _ _=>rfl
theorem RepW.siter (hw:RepW w0 G st w) {b:Nat} {s:ByteArray} {pos:Nat} (hb:st.box b=some [.si s pos]):w.heap[b]?=some (.stringIter s pos):=by
  have h:=(hw.box b _ hb).2.2.2.2
  generalize w.heap[b]?=o at h
  cases h with
  | cells vs e cs hl h1 hr =>
    obtain ⟨v,hv⟩:∃ v,vs[0]?=some v:=⟨_,Array.getElem?_eq_getElem (by simp at hl; omega)⟩
    have:=hr 0 _ v rfl hv
    cases this
  | siter _ _=>rfl
theorem RepW.setAt (hw:RepW w0 G st w) {b:Nat} {cs:List V} (hb:st.box b=some cs) (o:Obj) {cs':List V} (hr:RepB G (some o) cs'):RepW w0 G (st.put b cs') { w with heap:=w.heap.setIfInBounds b o }:=by
  have hlt:b < w.heap.size:=Nat.lt_of_lt_of_le (hw.box b cs hb).1 hw.sz
  refine hw.setObj hb _ cs' (fun k hk=>?_) (by simp) rfl rfl rfl ?_
  · simp only [Array.getElem?_setIfInBounds]
    rw [if_neg (fun e=>hk e.symm)]
  · simp only [Array.getElem?_setIfInBounds]
    rw [if_pos trivial,if_pos hlt]
    exact hr
theorem mlk_sound {t kt et:TypeId} (hu:P.underlying t=some (.map kt et)) {l:List Lf} (hl:leafs P 8 kt=some l) {z:V} (hz:zeroV P et=some z) (ok:Bool) {x k:V} {u kv:Value} (hw:RepW w0 G st w) (hx:Rep1 G x u) (hk:Rep1 G k kv) (h:(vmlk st.box (isA P kt) l z ok x k).1) :
    ∃ r,(Instr.lookup t u kv ok).run P w=.ok r w∧Rep1 G (vmlk st.box (isA P kt) l z ok x k).2 r:=by
  obtain ⟨zv,hzv,hzr⟩:=zeroV_sound (G:=G) hz w
  have two:∀ (a:V) (v:Value) (b:Bool),Rep1 G a v→Rep1 G (if ok=true then .tup [a,.sc (.bool b)] else a) (if ok=true then .tuple #[v,.bool b] else v):=fun a v b ha=>by
    cases ok
    · exact ha
    · refine .tup _ _ rfl fun i c v' hc hv=>?_
      match i with
      | 0=>simp at hc hv; subst hc; subst hv; exact ha
      | 1=>simp at hc hv; subst hc; subst hv; exact .sc _ rfl
      | i + 2=>simp at hc
  unfold vmlk at h ⊢
  split at h
  · rw [hx.sc_inv]
    obtain ⟨xs,hkv,hf,_⟩:=(keyW h hk).xs
    have hc:=checkKey_leafs (P:=P) w true 8 9992 hl xs hf
    have hfk:=findKey_leafs hl (keyW h hk) w [] [] rfl (fun j e m he=>by simp at he)
    refine ⟨_,?_,two z zv false hzr⟩
    rw [hkv] at hfk ⊢
    have hc':(Instr.checkKey true 10000 kt (packW P kt xs)).run P w=.ok () w:=hc
    simp only [Instr.lookup,Sem.run_bind,run_underlying hu,Result.andThen_ok,Sem.run_pure,List.isEmpty_toArray,List.isEmpty_nil,hc',hfk,mfi,Option.bind_none,hzv]
  · rename_i b
    split at h
    · rename_i ag' lf' es c hb
      obtain ⟨rfl,rfl,h⟩:=h
      obtain ⟨ms,hh,hm⟩:=hw.map hb
      rw [hx.sc_inv]
      have hkw:=keyW h hk
      obtain ⟨xs,hkv,hf,_⟩:=hkw.xs
      have hfk:=findKey_leafs hl hkw w es ms.toList (by simp [hm.len]) hm.keys
      have hc':∀ em,(Instr.checkKey em 10000 kt kv).run P w=.ok () w:=fun em=>by rw [hkv]; exact checkKey_leafs (P:=P) w em 8 9992 hl xs hf
      simp only [Instr.lookup,Sem.run_bind,run_underlying hu,Result.andThen_ok,Sem.run_pure,MapKept.run_getObj_map hh,hc',hfk]
      rw [mfi_find]
      cases hj:mfi k es with
      | none=>
        simp only [Option.bind_none,Sem.run_bind,hzv,Result.andThen_ok,Sem.run_pure,Option.getD_none,Option.isSome_none]
        exact ⟨_,rfl,two z zv false hzr⟩
      | some j =>
        obtain ⟨e,he,_⟩:=mfi_lt hj
        obtain ⟨m,hmj⟩:∃ m,ms.toList[j]?=some m:=⟨_,List.getElem?_eq_getElem (by have:=(List.getElem?_eq_some_iff.1 he).1; simp [hm.len]; exact this)⟩
        simp only [Option.bind_some,hmj,he,Option.map_some,Option.getD_some,Option.isSome_some]
        exact ⟨_,rfl,two _ _ true (hm.rep j e m he (by simpa using hmj)).2.2.1⟩
    · exact h.elim
  · exact h.elim
theorem mlen_sound {t kt et ty:TypeId} (hu:P.underlying t=some (.map kt et)) {x:V} {u:Value} (hw:RepW w0 G st w) (hx:Rep1 G x u) (h:(vmlen st.box x).1) :
    ∃ r,(Builtin.len_ #[t] ty #[u]).run P w=.ok r w∧Rep1 G (vmlen st.box x).2 r:=by
  unfold vmlen at h ⊢
  split at h
  · rw [hx.sc_inv]
    exact ⟨_,Maps.len_nil hu ty,.sc _ rfl⟩
  · split at h
    · rename_i b ag lf es c hb
      obtain ⟨ms,hh,hm⟩:=hw.map hb
      rw [hx.sc_inv]
      refine ⟨.int .i64 ms.size,?_,by rw [hm.len]; exact .sc _ rfl⟩
      simp [Builtin.len_,run_underlying hu,MapKept.run_getObj_map hh,goInt]
    · exact h.elim
  · exact h.elim
theorem mkm_sound {t:TypeId} (ag:Bool) (lf:List Lf) (hw:RepW w0 G st w) :
    (Instr.makeMap t none).run P w=.ok (.map (some w.heap.size)) (w.alloc (.map #[] 0))∧RepW w0 G (st.put w.heap.size [.mp ag lf [] 0]) (w.alloc (.map #[] 0)):=by
  refine ⟨run_makeMap ..,hw.newObj _ _ (.map ag lf [] 0 #[] ⟨rfl,fun i e m he=>by simp at he⟩)⟩
theorem mup_sound {t kt et:TypeId} (hu:P.underlying t=some (.map kt et)) {l:List Lf} (hl:leafs P 8 kt=some l) {b:Nat} {es:List (V × V × Nat)} {c:Nat} {k v:V} {kv vv:Value} (hw:RepW w0 G st w) (hb:st.box b=some [.mp (isA P kt) l es c]) (hk:Rep1 G k kv) (hv:Rep1 G v vv) (h:kOk (isA P kt) l k) :
    ∃ w',(Instr.mapUpdate t (.map (some b)) kv vv).run P w=.ok () w'∧RepW w0 G (st.put b [.mp (isA P kt) l (mset k v c es) (mclk es k c)]) w':=by
  obtain ⟨ms,hh,hm⟩:=hw.map hb
  have hkw:=keyW h hk
  obtain ⟨xs,hkv,hf,_⟩:=hkw.xs
  have hfk:=findKey_leafs hl hkw w es ms.toList (by simp [hm.len]) hm.keys
  have hc':(Instr.checkKey false 10000 kt kv).run P w=.ok () w:=by rw [hkv]; exact checkKey_leafs (P:=P) w false 8 9992 hl xs hf
  simp only [Instr.mapUpdate,Sem.run_bind,run_underlying hu,Result.andThen_ok,MapKept.run_getObj_map hh,hc',hfk]
  rw [mfi_set]
  unfold mclk
  rw [mfi_find]
  cases hj:mfi k es with
  | none =>
    simp only [Option.bind_none,Option.isSome_none,Bool.false_eq_true,if_false]
    rw [MapKept.run_setObj_map _ hh]
    refine ⟨_,rfl,hw.setAt hb _ (.map _ _ _ _ _ ⟨by simp [hm.len],fun i e m he hm'=>?_⟩)⟩
    rw [List.getElem?_append] at he
    rw [Array.getElem?_push] at hm'
    split at he
    · rename_i hlt
      rw [if_neg (by rw [hm.len]; omega)] at hm'
      exact hm.rep i e m he hm'
    · rename_i hge
      have hi:i=es.length:=by
        have:=(List.getElem?_eq_some_iff.1 he).1
        simp at this; omega
      subst hi
      rw [if_pos hm.len.symm] at hm'
      simp at he hm'
      subst he; subst hm'
      exact ⟨h,hk,hv,rfl⟩
  | some j =>
    obtain ⟨e0,he0,heq⟩:=mfi_lt hj
    obtain ⟨m0,hm0⟩:∃ m,ms.toList[j]?=some m:=⟨_,List.getElem?_eq_getElem (by have:=(List.getElem?_eq_some_iff.1 he0).1; simp [hm.len]; exact this)⟩
    have hm0':ms[j]?=some m0:=by simpa using hm0
    have hkeq:m0.key=kv:=by
      obtain ⟨xs,ys,h1,h2,h3,h4,h5⟩:=keyW_eq hkw (hm.keys j e0 m0 he0 hm0)
      rw [heq] at h5
      rw [h1,h2,eqW_true h3 h4 h5.symm]
    have hst:(Instr.keyThatStays kv kv).run P w=.ok kv w:=by rw [hkv]; exact stays_leafs hl hf w
    simp only [Option.bind_some,hm0,he0,Option.map_some,Option.isSome_some,if_true,hm0',Option.getD_some,hkeq,Sem.run_bind,hst,Result.andThen_ok]
    rw [MapKept.run_setObj_map _ hh]
    refine ⟨_,rfl,hw.setAt hb _ (.map _ _ _ _ _ ⟨by simp [hm.len],fun i e m he hm'=>?_⟩)⟩
    rw [List.getElem?_modify] at he
    rw [Array.getElem?_modify] at hm'
    by_cases hij:j=i
    · subst hij
      simp only [if_true,he0,hm0',Option.map_eq_map,Option.map_some,Option.some.injEq] at he hm'
      subst he; subst hm'
      exact ⟨h,hk,hv,(hm.rep j e0 m0 he0 hm0').2.2.2⟩
    · simp only [if_neg hij,Option.map_eq_map,Option.map_id'] at he hm'
      exact hm.rep i e m (by simpa using he) (by simpa using hm')
theorem mdel_sound {t kt et t2 ty:TypeId} (hu:P.underlying t=some (.map kt et)) {l:List Lf} (hl:leafs P 8 kt=some l) {b:Nat} {es:List (V × V × Nat)} {c:Nat} {k:V} {kv:Value} (hw:RepW w0 G st w) (hb:st.box b=some [.mp (isA P kt) l es c]) (hk:Rep1 G k kv) (h:kOk (isA P kt) l k) :
    ∃ w',(Builtin.delete_ #[t,t2] ty #[.map (some b),kv]).run P w=.ok (.tuple #[]) w'∧RepW w0 G (st.put b [.mp (isA P kt) l (mdel k es) c]) w':=by
  obtain ⟨ms,hh,hm⟩:=hw.map hb
  have hkw:=keyW h hk
  obtain ⟨xs,hkv,hf,_⟩:=hkw.xs
  have hfk:=findKey_leafs hl hkw w es ms.toList (by simp [hm.len]) hm.keys
  have hc':∀ em,(Instr.checkKey em 10000 kt kv).run P w=.ok () w:=fun em=>by rw [hkv]; exact checkKey_leafs (P:=P) w em 8 9992 hl xs hf
  simp only [Builtin.delete_,List.getElem?_toArray,List.getElem?_cons_zero,List.getElem?_cons_succ,Sem.run_bind,run_underlying hu,Result.andThen_ok,MapKept.run_getObj_map hh,hc',hfk]
  rw [mfi_del]
  cases hj:mfi k es with
  | none =>
    simp only [Option.bind_none]
    simp only [Sem.run_bind,MapKept.run_setObj_map _ hh,Result.andThen_ok,Sem.run_pure]
    exact ⟨_,rfl,hw.setAt hb _ (.map _ _ _ _ _ hm)⟩
  | some j =>
    obtain ⟨e0,he0,heq⟩:=mfi_lt hj
    have hlt:=(List.getElem?_eq_some_iff.1 he0).1
    obtain ⟨m0,hm0⟩:∃ m,ms.toList[j]?=some m:=⟨_,List.getElem?_eq_getElem (by simp [hm.len]; exact hlt)⟩
    simp only [Option.bind_some,hm0,Option.map_some]
    simp only [Sem.run_bind,MapKept.run_setObj_map _ hh,Result.andThen_ok,Sem.run_pure]
    have hltm:j < ms.size:=by rw [hm.len]; exact hlt
    have e:ms.eraseIdxIfInBounds j=(ms.toList.eraseIdx j).toArray:=by
      unfold Array.eraseIdxIfInBounds
      rw [dif_pos hltm]
      apply Array.toList_inj.1
      simp
    rw [e]
    refine ⟨_,rfl,hw.setAt hb _ (.map _ _ _ _ _ ⟨?_,fun i e m he hm'=>?_⟩)⟩
    · simp [List.length_eraseIdx,hm.len]
    · simp only [List.getElem?_toArray] at hm'
      rw [List.getElem?_eraseIdx] at he hm'
      split at he
      · rename_i hi
        rw [if_pos hi] at hm'
        exact hm.rep i e m he (by simpa using hm')
      · rename_i hi
        rw [if_neg hi] at hm'
        exact hm.rep (i + 1) e m he (by simpa using hm')
theorem mdel_nil {t kt et t2 ty:TypeId} (hu:P.underlying t=some (.map kt et)) {l:List Lf} (hl:leafs P 8 kt=some l) {k:V} {kv:Value} (hk:Rep1 G k kv) (h:kOk (isA P kt) l k) (w:World):(Builtin.delete_ #[t,t2] ty #[.map none,kv]).run P w=.ok (.tuple #[]) w:=by
  obtain ⟨xs,hkv,hf,_⟩:=(keyW h hk).xs
  have hc':∀ em,(Instr.checkKey em 10000 kt kv).run P w=.ok () w:=fun em=>by rw [hkv]; exact checkKey_leafs (P:=P) w em 8 9992 hl xs hf
  simp only [Builtin.delete_,List.getElem?_toArray,List.getElem?_cons_zero,List.getElem?_cons_succ,Sem.run_bind,run_underlying hu,Result.andThen_ok,hc',Sem.run_pure]
theorem rng_sound {t kt et:TypeId} (hu:P.underlying t=some (.map kt et)) {b:Nat} {ag:Bool} {l:List Lf} {es:List (V × V × Nat)} {c:Nat} (hw:RepW w0 G st w) (hb:st.box b=some [.mp ag l es c]) :
    ∃ w',(Instr.range t (.map (some b))).run P w=.ok (.pointer (some ⟨w.heap.size,0,none⟩)) w'∧RepW w0 G (st.put w.heap.size [.it (some b) c [] c]) w':=by
  obtain ⟨ms,hh,hm⟩:=hw.map hb
  refine ⟨w.alloc (.mapIter (some b) c #[] c),?_,hw.newObj _ _ (.iter (some b) c [] c)⟩
  simp [Instr.range,run_underlying hu,MapKept.run_getObj_map hh]
theorem rng_nil {t kt et:TypeId} (hu:P.underlying t=some (.map kt et)) (hw:RepW w0 G st w) :
    ∃ w',(Instr.range t (.map none)).run P w=.ok (.pointer (some ⟨w.heap.size,0,none⟩)) w'∧RepW w0 G (st.put w.heap.size [.it none 0 [] 0]) w':=by
  refine ⟨w.alloc (.mapIter none 0 #[] 0),?_,hw.newObj _ _ (.iter none 0 [] 0)⟩
  simp [Instr.range,run_underlying hu]
theorem nxtS_run {r pos:Nat} {s:ByteArray} {ty:TypeId} (hh:w.heap[r]?=some (.stringIter s pos)) (hp:pos < s.size) :
    (Instr.next (.pointer (some ⟨r,0,none⟩)) true ty).run P w=.ok (.tuple #[.bool true,.int .i64 pos,.int .i32 (Utf8.decode s pos).1]) { w with heap:=w.heap.setIfInBounds r (.stringIter s (pos + (Utf8.decode s pos).2)) }:=by
  simp [Instr.next,getObj,setObj,Sem.run,hh,hp,goInt]
theorem nxtS_end {r pos:Nat} {s:ByteArray} {ty:TypeId} (hh:w.heap[r]?=some (.stringIter s pos)) (hp:¬ pos < s.size) :
    (Instr.next (.pointer (some ⟨r,0,none⟩)) true ty).run P w=.ok (.tuple #[.bool false]) w:=by
  simp [Instr.next,getObj,Sem.run,hh,hp]
theorem nxt_nil {r since last:Nat} {seen:List Nat} {ty:TypeId} (hw:RepW w0 G st w) (hr:st.box r=some [.it none since seen last]) :
    (Instr.next (.pointer (some ⟨r,0,none⟩)) false ty).run P w=.ok (.tuple #[.bool false]) w:=by
  have hh:=hw.iter hr
  simp [Instr.next,getObj,Sem.run,hh]
theorem nxt_sound {r m since last c:Nat} {seen:List Nat} {ag:Bool} {l:List Lf} {es:List (V × V × Nat)} {ty:TypeId} (hw:RepW w0 G st w) (hr:st.box r=some [.it (some m) since seen last]) (hb:st.box m=some [.mp ag l es c])
    (hold:∀ e ∈ es,e.2.2 < since) (hsl:since≤last) :
    ((∀ e ∈ es,e.2.2 ∈ seen)∧(Instr.next (.pointer (some ⟨r,0,none⟩)) false ty).run P w=.ok (.tuple #[.bool false]) w) ∨
    ∃ e ∈ es,e.2.2 ∉ seen∧∃ u w',(Instr.next (.pointer (some ⟨r,0,none⟩)) false ty).run P w=.ok u w'∧Rep1 G (.tup [.sc (.bool true),e.1,e.2.1]) u∧RepW w0 G (st.put r [.it (some m) since (seen ++ [e.2.2]) c]) w':=by
  obtain ⟨ms,hh,hm⟩:=hw.map hb
  have hi:=hw.iter hr
  have born:∀ x ∈ ms.toList,∃ (e:V × V × Nat),e ∈ es∧x.born=e.2.2∧Rep1 G e.1 x.key∧Rep1 G e.2.1 x.val:=fun x hx=>by
    obtain ⟨i,hi,rfl⟩:=List.mem_iff_getElem.1 hx
    have hie:i < es.length:=by rw [← hm.len]; simpa using hi
    obtain ⟨h1,h2,h3,h4⟩:=hm.rep i _ _ (List.getElem?_eq_getElem hie) (Array.getElem?_eq_getElem (by simpa using hi))
    exact ⟨es[i],List.getElem_mem hie,by simpa using h4,by simpa using h2,by simpa using h3⟩
  have hold':∀ x ∈ ms.toList,x.born < since:=fun x hx=>by
    obtain ⟨e,he,hb,_⟩:=born x hx
    rw [hb]; exact hold e he
  rcases run_next_at (P:=P) w ty r m since last seen.toArray ms c hi hh hold' hsl with ⟨h0,h1⟩ | ⟨x,hx,w1,hw1,hrun⟩
  · refine .inl ⟨fun e he=>?_,h1⟩
    obtain ⟨i,hi,rfl⟩:=List.mem_iff_getElem.1 he
    have him:i < ms.size:=by rw [hm.len]; exact hi
    have h4:=(hm.rep i _ _ (List.getElem?_eq_getElem hi) (Array.getElem?_eq_getElem him)).2.2.2
    unfold leftOf at h0
    have:ms.filter (fun e=>!seen.toArray.contains e.born)=#[]:=Array.eq_empty_of_size_eq_zero h0
    rw [Array.filter_eq_empty_iff] at this
    have:=this _ (Array.getElem_mem him)
    rw [h4] at this
    simpa using this
  · right
    unfold leftOf at hx
    simp only [Array.toList_filter,List.mem_filter] at hx
    obtain ⟨e,he,hb',hk,hv⟩:=born x hx.1
    refine ⟨e,he,?_,_,_,hrun,?_,?_⟩
    · have:=hx.2
      rw [hb'] at this
      simpa using this
    · refine .tup _ _ rfl fun i cc v hcc hvv=>?_
      match i with
      | 0=>simp at hcc hvv; subst hcc; subst hvv; exact .sc _ rfl
      | 1=>simp at hcc hvv; subst hcc; subst hvv; exact hk
      | 2=>simp at hcc hvv; subst hcc; subst hvv; exact hv
      | i + 3=>simp at hcc
    · rw [hb']
      have hw1':RepW w0 G st w1:=by
        rcases hw1 with rfl | rfl
        · exact hw
        · exact hw.drew
      have:=hw1'.setAt hr (.mapIter (some m) since (seen ++ [e.2.2]).toArray c) (.iter (some m) since (seen ++ [e.2.2]) c)
      simpa [setBlock] using this
theorem ent_sound {x:V} {u:Value} (hw:RepW w0 G st w) (hx:Rep1 G x u) (h:(vent st.box x).1):∃ r,(Instr.entry u).run P w=.ok r w∧Rep1 G (vent st.box x).2 r:=by
  unfold vent at h ⊢
  split at h
  · rename_i r
    split at h
    · rename_i m since seen last hr
      split at h
      · rename_i ag lf es c hb
        split at h
        · rename_i e he
          simp only [] at h ⊢
          subst h
          obtain ⟨ms,hh,hm⟩:=hw.map hb
          have hi:=hw.iter hr
          rw [hx.sc_inv]
          obtain ⟨s,hs⟩:∃ s,seen.getLast?=some s:=by
            have h1:=List.find?_some he
            cases hl:seen.getLast? with
            | none=>rw [hl] at h1; simp at h1
            | some s=>exact ⟨s,rfl⟩
          have hback:seen.toArray.back?=some s:=by
            rw [← hs]
            simp [Array.back?,List.getLast?_eq_getElem?]
          have hfind:∃ q,ms.find? (·.born == s)=some q∧Rep1 G e.1 q.key∧Rep1 G e.2.1 q.val:=by
            rw [hs] at he
            obtain ⟨i,hi1,hi2,hi3⟩:=List.find?_eq_some_iff_getElem.1 he |>.2
            have him:i < ms.size:=by rw [hm.len]; exact hi1
            have hrep:=fun j hj=>hm.rep j _ _ (List.getElem?_eq_getElem (show j < es.length from hj)) (Array.getElem?_eq_getElem (by rw [hm.len]; exact hj))
            refine ⟨ms[i],?_,by have:=(hrep i hi1).2.1; rw [hi2] at this; exact this,by have:=(hrep i hi1).2.2.1; rw [hi2] at this; exact this⟩
            rw [← Array.find?_toList]
            refine List.find?_eq_some_iff_getElem.2 ⟨?_,i,by simpa using him,by simp,fun j hj=>?_⟩
            · have h1:=(List.find?_eq_some_iff_getElem.1 he).1
              have h2:=(hrep i hi1).2.2.2
              rw [hi2] at h2
              rw [h2]
              simpa using h1
            · have h1:=hi3 j hj
              have h2:=(hrep j (by omega)).2.2.2
              simp only [Array.getElem_toList]
              rw [h2]
              simpa using h1
          obtain ⟨q,hq,k1,k2⟩:=hfind
          refine ⟨.tuple #[q.key,q.val],?_,.tup _ _ rfl fun i cc v hcc hvv=>?_⟩
          · have g1:(getObj r).run P w=.ok (.mapIter (some m) since seen.toArray c) w:=by simp [getObj,Sem.run,hi]
            simp only [Instr.entry,Sem.run_bind,g1,Result.andThen_ok,hback,MapKept.run_getObj_map hh,bne_self_eq_false,Bool.false_eq_true,if_false,hq]
            rfl
          · match i with
            | 0=>simp at hcc hvv; subst hcc; subst hvv; exact k1
            | 1=>simp at hcc hvv; subst hcc; subst hvv; exact k2
            | i + 2=>simp at hcc
        · exact h.elim
      · exact h.elim
    · exact h.elim
  · exact h.elim
def mborn (k:V) (c:Nat):List (V × V × Nat)→Nat
  | []=>c
  | e :: es=>if eqV k.cells e.1.cells=true then e.2.2 else mborn k c es
theorem mfi_born (k:V) (c:Nat):∀ es:List (V × V × Nat),mborn k c es=match mfi k es with | some j=>((es[j]?).map (·.2.2)).getD c | none=>c
  | []=>rfl
  | e :: es=>by
    simp only [mborn,mfi]
    split
    · rfl
    · rw [mfi_born k c es]
      cases mfi k es <;> rfl
theorem ment_sound {t kt et:TypeId} (hu:P.underlying t=some (.map kt et)) {l:List Lf} (hl:leafs P 8 kt=some l) {z:V} (hz:zeroV P et=some z) {b:Nat} {es:List (V × V × Nat)} {c:Nat} {k:V} {kv:Value} (hw:RepW w0 G st w) (hb:st.box b=some [.mp (isA P kt) l es c]) (hk:Rep1 G k kv) (h:kOk (isA P kt) l k) :
    ∃ r w',(Instr.mapEntry t (.map (some b)) kv).run P w=.ok r w'∧Rep1 G (.tup [(mfind k es).getD z,.sc (.int .i64 (mborn k c es))]) r∧RepW w0 G (st.put b [.mp (isA P kt) l (mset k ((mfind k es).getD z) c es) (mclk es k c)]) w':=by
  obtain ⟨zv,hzv,hzr⟩:=zeroV_sound (G:=G) hz w
  obtain ⟨ms,hh,hm⟩:=hw.map hb
  have hkw:=keyW h hk
  obtain ⟨xs,hkv,hf,_⟩:=hkw.xs
  have two:∀ (a:V) (v:Value) (n:Nat),Rep1 G a v→Rep1 G (.tup [a,.sc (.int .i64 n)]) (.tuple #[v,.int .i64 n]):=fun a v b ha=>by
    refine .tup _ _ rfl fun i c v' hc hv=>?_
    match i with
    | 0=>simp at hc hv; subst hc; subst hv; exact ha
    | 1=>simp at hc hv; subst hc; subst hv; exact .sc _ rfl
    | i + 2=>simp at hc
  have hfk:=findKey_leafs hl hkw w es ms.toList (by simp [hm.len]) hm.keys
  have hc':(Instr.checkKey false 10000 kt kv).run P w=.ok () w:=by rw [hkv]; exact checkKey_leafs (P:=P) w false 8 9992 hl xs hf
  simp only [Instr.mapEntry,Sem.run_bind,run_underlying hu,Result.andThen_ok,MapKept.run_getObj_map hh,hc',hfk]
  rw [mfi_set,mfi_born]
  unfold mclk
  rw [mfi_find]
  cases hj:mfi k es with
  | none =>
    simp only [Option.bind_none,Option.isSome_none,Bool.false_eq_true,if_false,Option.getD_none,Sem.run_bind,hzv,Result.andThen_ok,MapKept.run_setObj_map _ hh,Sem.run_pure]
    refine ⟨_,_,rfl,two z zv c hzr,hw.setAt hb _ (.map _ _ _ _ _ ⟨by simp [hm.len],fun i e m he hm'=>?_⟩)⟩
    rw [List.getElem?_append] at he
    rw [Array.getElem?_push] at hm'
    split at he
    · rename_i hlt
      rw [if_neg (by rw [hm.len]; omega)] at hm'
      exact hm.rep i e m he hm'
    · rename_i hge
      have hi:i=es.length:=by
        have:=(List.getElem?_eq_some_iff.1 he).1
        simp at this; omega
      subst hi
      rw [if_pos hm.len.symm] at hm'
      simp at he hm'
      subst he; subst hm'
      exact ⟨h,hk,hzr,rfl⟩
  | some j =>
    obtain ⟨e0,he0,heq⟩:=mfi_lt hj
    obtain ⟨m0,hm0⟩:∃ m,ms.toList[j]?=some m:=⟨_,List.getElem?_eq_getElem (by have:=(List.getElem?_eq_some_iff.1 he0).1; simp [hm.len]; exact this)⟩
    have hm0':ms[j]?=some m0:=by simpa using hm0
    have hkeq:m0.key=kv:=by
      obtain ⟨xs,ys,h1,h2,h3,h4,h5⟩:=keyW_eq hkw (hm.keys j e0 m0 he0 hm0)
      rw [heq] at h5
      rw [h1,h2,eqW_true h3 h4 h5.symm]
    obtain ⟨_,_,hv0,hb0⟩:=hm.rep j e0 m0 he0 hm0'
    have hst:(Instr.keyThatStays kv kv).run P w=.ok kv w:=by rw [hkv]; exact stays_leafs hl hf w
    simp only [Option.bind_some,hm0,he0,Option.map_some,Option.isSome_some,if_true,hm0',Option.getD_some,hkeq,Sem.run_bind,hst,Result.andThen_ok,MapKept.run_setObj_map _ hh,Sem.run_pure]
    refine ⟨_,_,rfl,by rw [← hb0]; exact two _ _ _ hv0,hw.setAt hb _ (.map _ _ _ _ _ ⟨by simp [hm.len],fun i e m he hm'=>?_⟩)⟩
    rw [List.getElem?_modify] at he
    rw [Array.getElem?_modify] at hm'
    by_cases hij:j=i
    · subst hij
      simp only [if_true,he0,hm0',Option.map_eq_map,Option.map_some,Option.some.injEq] at he hm'
      subst he; subst hm'
      exact ⟨h,hk,hv0,hb0⟩
    · simp only [if_neg hij,Option.map_eq_map,Option.map_id'] at he hm'
      exact hm.rep i e m (by simpa using he) (by simpa using hm')
def mstamp (s:Nat) (v:V):List (V × V × Nat)→List (V × V × Nat)
  | []=>[]
  | e :: es=>if e.2.2=s then (e.1,v,e.2.2) :: es else e :: mstamp s v es
theorem est_sound {t:TypeId} {b s:Nat} {ag:Bool} {lf:List Lf} {es:List (V × V × Nat)} {c:Nat} {v:V} {vv:Value} (hw:RepW w0 G st w) (hb:st.box b=some [.mp ag lf es c]) (hv:Rep1 G v vv) (h:∃ e ∈ es,e.2.2=s) :
    ∃ w',(Instr.entryStore t (.map (some b)) (.int .i64 s) vv).run P w=.ok () w'∧RepW w0 G (st.put b [.mp ag lf (mstamp s v es) c]) w':=by
  obtain ⟨ms,hh,hm⟩:=hw.map hb
  have hidx:∀ (es:List (V × V × Nat)) (ms:List MapEntry),ms.length=es.length→(∀ (i:Nat) (e:V × V × Nat) (m:MapEntry),es[i]?=some e→ms[i]?=some m→m.born=e.2.2)→(∃ e ∈ es,e.2.2=s) →
      ∃ j,j < es.length∧ms.findIdx? (fun e=>(e.born:Int) == (s:Int))=some j∧mstamp s v es=es.modify j (fun e=>(e.1,v,e.2.2)):=by
    intro es
    induction es with
    | nil=>rintro ms _ _ ⟨e,he,_⟩; cases he
    | cons e es ih =>
      intro ms hl hb' hex
      cases ms with
      | nil=>simp at hl
      | cons m ms =>
        have h0:=hb' 0 e m rfl rfl
        by_cases hc:e.2.2=s
        · exact ⟨0,by simp,by simp [List.findIdx?_cons,h0,hc],by simp [mstamp,hc]⟩
        · obtain ⟨j,j1,j2,j3⟩:=ih ms (by simpa using hl) (fun i e m he hm=>hb' (i + 1) e m (by simpa using he) (by simpa using hm)) (by
            obtain ⟨e',he',hs⟩:=hex
            rcases List.mem_cons.1 he' with rfl | he'
            · exact absurd hs hc
            · exact ⟨e',he',hs⟩)
          refine ⟨j + 1,by simp; exact j1,?_,by simp [mstamp,hc,j3]⟩
          rw [List.findIdx?_cons,if_neg (by rw [h0]; simp; omega),j2]
          rfl
  obtain ⟨j,j1,j2,j3⟩:=hidx es ms.toList (by simp [hm.len]) (fun i e m he hm'=>(hm.rep i e m he (by simpa using hm')).2.2.2) h
  have j2':ms.findIdx? (fun e=>(e.born:Int) == (s:Int))=some j:=by
    rw [← Array.toArray_toList (xs:=ms),List.findIdx?_toArray]; exact j2
  refine ⟨{ w with heap:=w.heap.setIfInBounds b (.map (ms.modify j fun e=>{ e with val:=vv }) c) },?_,?_⟩
  · simp only [Instr.entryStore,Sem.run_bind,Sem.run_pure,MapKept.run_getObj_map hh,Result.andThen_ok,asInt,asIntOf,j2',MapKept.run_setObj_map _ hh]
  · rw [j3]
    refine hw.setAt hb _ (.map _ _ _ _ _ ⟨by simp [hm.len],fun i e m he hm'=>?_⟩)
    obtain ⟨e0,he0⟩:∃ e,es[j]?=some e:=⟨_,List.getElem?_eq_getElem j1⟩
    obtain ⟨m0,hm0'⟩:∃ m,ms[j]?=some m:=⟨_,Array.getElem?_eq_getElem (by rw [hm.len]; exact j1)⟩
    rw [List.getElem?_modify] at he
    rw [Array.getElem?_modify] at hm'
    by_cases hij:j=i
    · subst hij
      simp only [if_true,he0,hm0',Option.map_eq_map,Option.map_some,Option.some.injEq] at he hm'
      subst he; subst hm'
      have:=hm.rep j e0 m0 he0 hm0'
      exact ⟨this.1,this.2.1,hv,this.2.2.2⟩
    · simp only [if_neg hij,Option.map_eq_map,Option.map_id'] at he hm'
      exact hm.rep i e m (by simpa using he) (by simpa using hm')
theorem mnilOf_inv {op:BinOp} {t:TypeId} {y:Operand} {neg:Bool} (h:mnilOf P op t y=some neg):op=(if neg then .neq else .eql)∧∃ k e,P.underlying t=some (.map k e)∧y=.const (.map none):=by
  unfold mnilOf at h
  split at h <;> simp only [Option.some.injEq,reduceCtorEq] at h
  · subst h; exact ⟨rfl,_,_,by assumption,rfl⟩
  · subst h; exact ⟨rfl,_,_,by assumption,rfl⟩
theorem equalIn_map {t k e:TypeId} (hu:P.underlying t=some (.map k e)) (d:Nat) (m:Option Nat) (w:World):(Op.equalIn (d + 1) t (.map m) (.map none)).run P w=.ok m.isNone w:=by
  cases m <;> simp [Op.equalIn,run_underlying hu]
theorem vmnil_sound {neg:Bool} {t k e:TypeId} (hu:P.underlying t=some (.map k e)) {x:V} {u:Value} (ox oy:Operand) (hx:Rep1 G x u) (h:(vmnil neg x).1) (w:World) :
    ∃ r,(do eqGuard (if neg then .neq else .eql) t ox oy u (.map none); binOp (if neg then .neq else .eql) t u (.map none):Sem Value).run P w=.ok r w∧Rep1 G (vmnil neg x).2 r:=by
  have run:∀ m:Option Nat,(do eqGuard (if neg then .neq else .eql) t ox oy (.map m) (.map none); binOp (if neg then .neq else .eql) t (.map m) (.map none):Sem Value).run P w=.ok (.bool (if neg then !m.isNone else m.isNone)) w:=fun m=>by
    have:(Op.equal t (.map m) (.map none)).run P w=.ok m.isNone w:=equalIn_map hu 9999 m w
    cases neg
    · simp only [Bool.false_eq_true,if_false,binOp]
      simp [eqGuard,this]
    · simp only [if_true,binOp]
      simp [eqGuard,this]
  unfold vmnil at h ⊢
  split at h
  · rw [hx.sc_inv,run]
    exact ⟨_,rfl,by cases neg <;> exact .sc _ rfl⟩
  · rw [hx.sc_inv,run]
    exact ⟨_,rfl,by cases neg <;> exact .sc _ rfl⟩
  · exact h.elim
theorem inilOf_inv {op:BinOp} {t:TypeId} {y:Operand} {neg:Bool} (h:inilOf P op t y=some neg):op=(if neg then .neq else .eql)∧∃ ms,P.underlying t=some (.interface ms)∧y=.const .nilIface:=by
  unfold inilOf at h
  split at h <;> simp only [Option.some.injEq,reduceCtorEq] at h
  · subst h; exact ⟨rfl,_,by assumption,rfl⟩
  · subst h; exact ⟨rfl,_,by assumption,rfl⟩
theorem vinil_sound {neg:Bool} {t:TypeId} {ms:Array (String × TypeId)} (hu:P.underlying t=some (.interface ms)) {x:V} {u:Value} (ox:Operand) (hx:Rep1 G x u) (h:(vinil neg x).1) (w:World) :
    ∃ r,(do eqGuard (if neg then .neq else .eql) t ox (.const .nilIface) u .nilIface; binOp (if neg then .neq else .eql) t u .nilIface:Sem Value).run P w=.ok r w∧Rep1 G (vinil neg x).2 r:=by
  have e0:(Op.equal t .nilIface .nilIface).run P w=.ok true w:=by
    have:∀ d:Nat,(Op.equalIn (d + 1) t .nilIface .nilIface).run P w=.ok true w:=fun d=>by simp [Op.equalIn,run_underlying hu]
    exact this 9999
  have e1:∀ (ti:TypeId) (v:Value),(Op.equal t (.iface ti v) .nilIface).run P w=.ok false w:=fun ti v=>by
    have:∀ d:Nat,(Op.equalIn (d + 1) t (.iface ti v) .nilIface).run P w=.ok false w:=fun d=>by simp [Op.equalIn,run_underlying hu]
    exact this 9999
  unfold vinil at h ⊢
  split at h
  · rw [hx.sc_inv]
    cases neg
    · exact ⟨_,by simp only [Bool.false_eq_true,if_false,binOp]; simp [eqGuard,e0],.sc _ rfl⟩
    · exact ⟨_,by simp only [if_true,binOp]; simp [eqGuard,e0],.sc _ rfl⟩
  · rw [hx.sc_inv]
    cases neg
    · exact ⟨_,by simp only [Bool.false_eq_true,if_false,binOp]; simp [eqGuard,e1],.sc _ rfl⟩
    · exact ⟨_,by simp only [if_true,binOp]; simp [eqGuard,e1],.sc _ rfl⟩
  · exact h.elim
end
end
section
open Go Go.RowKit
def VCalls (P:Program) (f:FuncId) (args:List V) (st:St) (Q:V→St→Prop):Prop :=
  ∀ (w0:Fr) (G:Gh) (w:World) (us:Array Value),RepW w0 G st w→us.size=args.length→(∀ (i:Nat) (d:V) (u:Value),args[i]?=some d→us[i]?=some u→Rep1 G d u) →
    Calls P f us w fun e w'=>∃ u r st' G',e=.returned u∧Q r st'∧Rep1 G' r u∧G.le G'∧RepW w0 G' st' w'
theorem VCalls.mono {P:Program} {f:FuncId} {args:List V} {st:St} {Q Q':V→St→Prop} (h:VCalls P f args st Q) (hq:∀ r st',Q r st'→Q' r st'):VCalls P f args st Q' :=
  fun w0 G w us hw hl hr=>(h w0 G w us hw hl hr).mono fun _ _ ⟨u,r,st',G',h1,h2,h3⟩=>⟨u,r,st',G',h1,hq _ _ h2,h3⟩
def ptrV (b:Nat):V:=.sc (.pointer (some ⟨b,0,none⟩))
def vstore (size:Nat) (x y:V) (st:St) (K:St→Prop):Prop :=
  match x with
  | .sc (.pointer (some ⟨b,o,none⟩))=>match st.box b with
    | some cs=>y.cells.length=size∧0 < size∧o + size≤cs.length∧mono cs∧K (st.put b (splice cs o y.cells))
    | none=>False
  | _=>False
def srcV (size:Nat) (st:St) (y:V) (ys:List V):Prop :=
  (∃ tk,y=.sl tk ys) ∨ ∃ b o c cs,y=.sc (.slice (some ⟨b,o,none⟩) ys.length c)∧st.box b=some cs∧o + ys.length * size≤cs.length∧(cs.drop o).take (ys.length * size)=ys.flatMap V.cells∧mono cs
def vapp (size bytes:Nat) (x y:V) (st:St) (K:V→St→Prop):Prop :=
  (∃ l ys,Own size st x l∧srcV size st y ys∧allSz size ys∧l.length + ys.length≤maxLen∧(l.length + ys.length) * bytes≤140737488355328∧∀ r st',Own size st' r (l ++ ys)→AppSt st x st' r→K r st') ∨
  (∃ b n cap cs ys,x=.sc (.slice (some ⟨b,0,none⟩) n cap)∧st.box b=some cs∧cs.length=cap * size∧mono cs∧n≤cap∧cap≤maxLen∧srcV size st y ys∧allSz size ys∧n + ys.length≤maxLen∧(n + ys.length) * bytes≤140737488355328 ∧
    ∀ b' cap' spare,(b'=b ∨ st.sz≤b')→n + ys.length≤cap'→cap'≤maxLen→(n + ys.length) * size + spare.length=cap' * size→(n + ys.length≤cap→b'=b∧cap'=cap∧spare=cs.drop ((n + ys.length) * size))→mono (cs.take (n * size) ++ ys.flatMap V.cells ++ spare) →
      K (.sc (.slice (some ⟨b',0,none⟩) (n + ys.length) cap')) (st.put b' (cs.take (n * size) ++ ys.flatMap V.cells ++ spare))) ∨
  (∃ ys,x=.sl .nil []∧srcV size st y ys∧allSz size ys∧0 < ys.length∧ys.length≤maxLen∧ys.length * bytes≤140737488355328 ∧
    (∀ b' cap' spare,st.sz≤b'→ys.length≤cap'→cap'≤maxLen→ys.length * size + spare.length=cap' * size→mono (ys.flatMap V.cells ++ spare) →
      K (.sc (.slice (some ⟨b',0,none⟩) ys.length cap')) (st.put b' (ys.flatMap V.cells ++ spare)))) ∨
  (∃ l ys,x=.sl .full l∧allSz size l∧srcV size st y ys∧allSz size ys∧0 < ys.length∧l.length + ys.length≤maxLen∧(l.length + ys.length) * bytes≤140737488355328∧∀ r st',Own size st' r (l ++ ys)→AppSt st x st' r→K r st') ∨
  ((∃ tk l,x=.sl tk l)∧srcV size st y []∧K x st)
def vcpy (size:Nat) (x y:V) (st:St) (K:V→St→Prop):Prop :=
  match x,y with
  | .sc (.slice (some ⟨b,o,none⟩) n _),.sc (.slice (some ⟨b2,o2,none⟩) m _)=>match st.box b,st.box b2 with
    | some cs,some ds=>mono cs∧mono ds∧o + n * size≤cs.length∧o2 + m * size≤ds.length∧K (.sc (.int .i64 (min m n:Nat))) (st.put b (splice cs o ((ds.drop o2).take (min m n * size))))
    | _,_=>False
  | _,_=>False
def methOf (P:Program) (t:TypeId) (name:String):Option FuncId :=
  match P.info? t,P.underlying t with
  | some i,some (.pointer _)=>match i.methods.find? (·.name == name) with
    | some m=>if m.path=#[] then match m.func with
      | some (f,true)=>some f
      | _=>none
      else none
    | none=>none
  | _,_=>none
def vinv (P:Program) (name:String) (x:V) (args:List V) (st:St) (K:V→St→Prop):Prop :=
  match x with
  | .sc (.iface t v)=>∃ f,methOf P t name=some f∧callable P f=true∧v.oneCell'=true∧VCalls P f (.sc v :: args) st K
  | _=>False
def vmks (_ bytes:Nat) (z:List V) (x:V) (st:St) (K:V→St→Prop):Prop :=
  match x with
  | .sc (.int _ n)=>0≤n∧(bytes:Int) * n≤281474976710656∧n≤9223372036854775807∧∀ b,st.sz≤b→K (.sc (.slice (some ⟨b,0,none⟩) n.toNat n.toNat)) (st.put b (List.replicate n.toNat z).flatten)
  | _=>False
def vmko (size bytes:Nat) (z:List V) (x:V) (st:St) (K:V→St→Prop):Prop :=
  match x with
  | .sc (.int _ n)=>0≤n∧(bytes:Int) * n≤281474976710656∧n≤9223372036854775807∧((∀ g,st.sz≤g→K (.sl (.own g size) []) (st.use g 0)) ∨
    ∀ b,st.sz≤b→K (.sc (.slice (some ⟨b,0,none⟩) 0 n.toNat)) (st.put b (List.replicate n.toNat z).flatten))
  | _=>False
def vmup (ag:Bool) (lf:List Lf) (x k v:V) (st:St) (K:St→Prop):Prop :=
  match x with
  | .sc (.map (some b))=>match st.box b with
    | some [.mp ag' lf' es c]=>ag'=ag∧lf'=lf∧kOk ag lf k∧K (st.put b [.mp ag lf (mset k v c es) (mclk es k c)])
    | _=>False
  | _=>False
def vmdel (ag:Bool) (lf:List Lf) (x k:V) (st:St) (K:St→Prop):Prop :=
  match x with
  | .sc (.map none)=>kOk ag lf k∧K st
  | .sc (.map (some b))=>match st.box b with
    | some [.mp ag' lf' es c]=>ag'=ag∧lf'=lf∧kOk ag lf k∧K (st.put b [.mp ag lf (mdel k es) c])
    | _=>False
  | _=>False
def vrng (x:V) (st:St) (K:V→St→Prop):Prop :=
  match x with
  | .sc (.map none)=>∀ r,st.sz≤r→K (ptrV r) (st.put r [.it none 0 [] 0])
  | .sc (.map (some b))=>match st.box b with
    | some [.mp _ _ _ c]=>∀ r,st.sz≤r→K (ptrV r) (st.put r [.it (some b) c [] c])
    | _=>False
  | _=>False
def vnxt (x:V) (st:St) (K:V→St→Prop):Prop :=
  match x with
  | .sc (.pointer (some ⟨r,0,none⟩))=>match st.box r with
    | some [.it none _ _ _]=>K (.tup [.sc (.bool false)]) st
    | some [.it (some m) since seen last]=>match st.box m with
      | some [.mp _ _ es c]=>(∀ e ∈ es,e.2.2 < since)∧since≤last∧((∀ e ∈ es,e.2.2 ∈ seen)→K (.tup [.sc (.bool false)]) st) ∧
          ∀ e ∈ es,e.2.2 ∉ seen→K (.tup [.sc (.bool true),e.1,e.2.1]) (st.put r [.it (some m) since (seen ++ [e.2.2]) c])
      | _=>False
    | _=>False
  | _=>False
def vment (ag:Bool) (lf:List Lf) (z x k:V) (st:St) (K:V→St→Prop):Prop :=
  match x with
  | .sc (.map (some b))=>match st.box b with
    | some [.mp ag' lf' es c]=>ag'=ag∧lf'=lf∧kOk ag lf k∧K (.tup [(mfind k es).getD z,.sc (.int .i64 (mborn k c es))]) (st.put b [.mp ag lf (mset k ((mfind k es).getD z) c es) (mclk es k c)])
    | _=>False
  | _=>False
def vest (x s v:V) (st:St) (K:St→Prop):Prop :=
  match x,s with
  | .sc (.map (some b)),.sc (.int .i64 n)=>0≤n∧match st.box b with
    | some [.mp ag lf es c]=>(∃ e ∈ es,e.2.2=n.toNat)∧K (st.put b [.mp ag lf (mstamp n.toNat v es) c])
    | _=>False
  | _,_=>False
def vclr (size:Nat) (z:List V) (x:V) (st:St) (K:St→Prop):Prop :=
  match x with
  | .sl _ []=>K st
  | .sc (.slice (some ⟨b,o,none⟩) n _)=>match st.box b with
    | some cs=>o + n * size≤cs.length∧mono cs∧K (st.put b (splice cs o (List.replicate n z).flatten))
    | none=>False
  | _=>False
def vcalv (P:Program) (x:V) (args:List V) (st:St) (K:V→St→Prop):Prop :=
  match x with
  | .sc (.func (.func f) first cap)=>callable P f=true∧(∀ v ∈ first.toList ++ cap.toList,v.oneCell'=true)∧VCalls P f (first.toList.map V.sc ++ args ++ cap.toList.map V.sc) st K
  | _=>False
def vrngS (x:V) (st:St) (K:V→St→Prop):Prop :=
  match x with
  | .sc (.string s)=>∀ r,st.sz≤r→K (ptrV r) (st.put r [.si s 0])
  | _=>False
def vnxtS (x:V) (st:St) (K:V→St→Prop):Prop :=
  match x with
  | .sc (.pointer (some ⟨r,0,none⟩))=>match st.box r with
    | some [.si s pos]=>if pos < s.size then K (.tup [.sc (.bool true),.sc (.int .i64 pos),.sc (.int .i32 (Utf8.decode s pos).1)]) (st.put r [.si s (pos + (Utf8.decode s pos).2)]) else K (.tup [.sc (.bool false)]) st
    | _=>False
  | _=>False
def vclrm (x:V) (st:St) (K:St→Prop):Prop :=
  match x with
  | .sc (.map none)=>K st
  | .sc (.map (some b))=>match st.box b with
    | some [.mp ag lf _ c]=>K (st.put b [.mp ag lf [] c])
    | _=>False
  | _=>False
def vop (P:Program) (o:VOp) (st:St) (A:Nat→V) (K:V→St→Prop):Prop :=
  match o with
  | .box x=>(x.ev A).cells.length ≠ 0∧∀ b,st.sz≤b→K (ptrV b) (st.put b (x.ev A).cells)
  | .alc z=>∀ b,st.sz≤b→K (ptrV b) (st.put b z)
  | .alcX z=>∀ b,st.box b=none→st.own b=none→K (ptrV b) (st.put b z)
  | .boxX x=>(x.ev A).cells.length ≠ 0∧∀ b,st.box b=none→st.own b=none→K (ptrV b) (st.put b (x.ev A).cells)
  | .bslo size xs=>allLen size (xs.map fun x=>strip (x.ev A))∧((∀ g,st.sz≤g→K (.sl (.own g size) (xs.map fun x=>strip (x.ev A))) (st.use g xs.length)) ∨
      ∀ b,st.sz≤b→K (.sc (.slice (some ⟨b,0,none⟩) xs.length xs.length)) (st.put b ((xs.map fun x=>strip (x.ev A)).flatMap V.cells)))
  | .mks size bytes z x=>vmks size bytes z (x.ev A) st K
  | .mko size bytes z x=>vmko size bytes z (x.ev A) st K
  | .store size x y=>vstore size (x.ev A) (y.ev A) st (K .und)
  | .app size bytes x y=>vapp size bytes (x.ev A) (y.ev A) st K
  | .appx size bytes z x y=>(srcX z (y.ev A)).1∧vapp size bytes (x.ev A) (srcX z (y.ev A)).2 st K
  | .call f args=>VCalls P f (args.map fun x=>x.ev A) st fun r st'=>r.Ok→K r st'
  | .mkm ag lf=>∀ b,st.sz≤b→K (.sc (.map (some b))) (st.put b [.mp ag lf [] 0])
  | .mup ag lf x k v=>vmup ag lf (x.ev A) (k.ev A) (v.ev A) st (K .und)
  | .mdel ag lf x k=>vmdel ag lf (x.ev A) (k.ev A) st (K (.tup []))
  | .rng x=>vrng (x.ev A) st K
  | .nxt x=>vnxt (x.ev A) st K
  | .rngS x=>vrngS (x.ev A) st K
  | .nxtS x=>vnxtS (x.ev A) st K
  | .clrm x=>vclrm (x.ev A) st (K (.tup []))
  | .ment ag lf z x k=>vment ag lf z (x.ev A) (k.ev A) st K
  | .est x s v=>vest (x.ev A) (s.ev A) (v.ev A) st (K .und)
  | .clr size z x=>vclr size z (x.ev A) st (K (.tup []))
  | .calv x args=>vcalv P (x.ev A) (args.map fun x=>x.ev A) st fun r st'=>r.Ok→K r st'
  | .inv name x args=>vinv P name (x.ev A) (args.map fun x=>x.ev A) st fun r st'=>r.Ok→K r st'
  | .cpy size x y=>vcpy size (x.ev A) (y.ev A) st K
  | o=>(pop st A o).1∧K (pop st A o).2 st
section
variable {P:Program} {w0:Fr} {G:Gh} {st:St} {w:World} {A:Nat→V} {a:Act}
def VOp.isPop:VOp→Bool
  | .box _ | .alc _ | .alcX _ | .boxX _ | .mks _ _ _ _ | .mko _ _ _ _ | .bslo _ _ | .store _ _ _ | .app _ _ _ _ | .appx _ _ _ _ _ | .call _ _ | .mkm _ _ | .mup _ _ _ _ _ | .mdel _ _ _ _ | .rng _ | .nxt _ | .rngS _ | .nxtS _ | .clrm _ | .ment _ _ _ _ _ | .est _ _ _ | .clr _ _ _ | .calv _ _ | .inv _ _ _ | .cpy _ _ _=>false
  | _=>true
theorem mapM_get {α β:Type} {f:α→Option β}:∀ {l:List α} {r:List β} (_:l.mapM f=some r),r.length=l.length∧∀ (i:Nat) (x:α) (y:β),l[i]?=some x→r[i]?=some y→f x=some y
  | [],r,h=>by simp at h; subst h; exact ⟨rfl,fun i x y hx=>by simp at hx⟩
  | x :: l,r,h=>by
    simp only [List.mapM_cons,Option.pure_def,Option.bind_eq_bind,Option.bind_eq_some_iff,Option.some.injEq] at h
    obtain ⟨y,hy,ys,hys,rfl⟩:=h
    obtain ⟨h1,h2⟩:=mapM_get hys
    refine ⟨by simp [h1],fun i x' y' hx hy'=>?_⟩
    cases i with
    | zero=>simp at hx hy'; subst hx; subst hy'; exact hy
    | succ i=>exact h2 i x' y' (by simpa using hx) (by simpa using hy')
theorem opt_rep {x:Option Operand} {X':Option X} (hx:cxo x=some X') {l:List Nat} (hr:RelOn l G A a) (hl:∀ t ∈ oreads X',t ∈ l) :
    oRep G (X'.map fun x=>x.ev A) (x.map a.eval):=by
  cases x with
  | none=>simp only [cxo,Option.some.injEq] at hx; subst hx; trivial
  | some o =>
    simp only [cxo,Option.map_eq_some_iff] at hx
    obtain ⟨y,hy,rfl⟩:=hx
    exact cx_rep hy hr hl
theorem run_v {s:Sem Value} {u:Value} {w':World} (h:s.run P w=.ok u w'):(do pure (Next.value (← s)):Sem Next).run P w=.ok (.value u) w':=by simp [h]
theorem vapp_sound {t t2 elem ty:TypeId} {e:TypeInfo} {z:Value} (hw:RepW w0 G st w) (hu:P.underlying t=some (.slice elem)) (he:P.info? elem=some e) (hz:e.zero=some z) (hzs:z.cells.size=e.size) (hz1:z.cells.all Value.oneCell'=true) (hsz:0 < e.size)
    {x y:V} {u v:Value} (r1:Rep1 G x u) (hsrc:∀ ys,srcV e.size st y ys→allSz e.size ys→ys.length≤maxLen→ys.length * e.bytes≤140737488355328→SrcOk P G w t t2 elem e z v ys) {K:V→St→Prop} (h:vapp e.size e.bytes x y st K) :
    ∃ r w' G' rv st',(Builtin.append_ #[t,t2] ty #[u,v]).run P w=.ok r w'∧K rv st'∧Rep1 G' rv r∧G.le G'∧RepW w0 G' st' w':=by
  have mulle:∀ {a b:Nat},a≤b→a * e.bytes≤b * e.bytes:=fun h=>Nat.mul_le_mul_right _ h
  rcases h with ⟨l,ys,k1,k2,k3,k4,k5,k6⟩ | ⟨b,n,cap,cs,ys,kx,kb,kl,kmo,kn,kc,k2,k3,k4,k5,k6⟩ | ⟨ys,kx,k2,k3,k1,k4,k5,k6⟩ | ⟨l,ys,kx,kl,k2,k3,k1,k4,k5,k6⟩ | ⟨⟨tk,l,kx⟩,k2,k6⟩
  · have hsr:=hsrc ys k2 k3 (by omega) (Nat.le_trans (mulle (by omega)) k5)
    obtain ⟨r,w',G',rv,st',hrun,j1,j2,j3,j4,j5⟩:=app_sound (P:=P) (ty:=ty) hw hu he hz hzs hsz r1 k1 hsr k3 k4 k5
    exact ⟨r,w',G',rv,st',hrun,k6 rv st' j4 j5,j1,j2,j3⟩
  · have hsr:=hsrc ys k2 k3 (by omega) (Nat.le_trans (mulle (by omega)) k5)
    rw [kx] at r1
    have hux:=r1.sc_inv
    obtain ⟨b',cap',spare,w',hrun,j1,j2,j3,j4,jin,jmo,j5⟩:=appB_sound (P:=P) (ty:=ty) hw hu he hz hzs (Array.all_eq_true_iff_forall_mem.1 hz1) hsz kb kl kmo kn kc hsr k3 k4 k5
    rw [← hux] at hrun
    exact ⟨_,w',G,_,_,hrun,k6 b' cap' spare j1 j2 j3 j4 jin jmo,.sc _ rfl,.refl G,j5⟩
  · have hsr:=hsrc ys k2 k3 k4 k5
    rw [kx] at r1
    have hux:u=.slice none 0 0:=by
      cases r1 with
      | nil=>rfl
      | emp a cap hm own he=>simp at he
      | sl _ _ _ _ _ _ _ _ _ _ _ _ _ ho=>exact absurd rfl ho
    obtain ⟨b',cap',spare,w',hrun,j1,j2,j3,j4,jmo,j5⟩:=appN_sound (P:=P) (ty:=ty) hw hu he hz hzs (Array.all_eq_true_iff_forall_mem.1 hz1) hsz hsr k3 k1 k4 k5
    rw [← hux] at hrun
    exact ⟨_,w',G,_,_,hrun,k6 b' cap' spare j1 j2 j3 j4 jmo,.sc _ rfl,.refl G,j5⟩
  · have hsr:=hsrc ys k2 k3 (by omega) (Nat.le_trans (mulle (by omega)) k5)
    rw [kx] at r1
    obtain ⟨r,w',G',rv,st',hrun,j1,j2,j3,j4,j5⟩:=appF_sound (P:=P) (ty:=ty) hw hu he hz hzs hsz r1 kl k1 hsr k3 k4 k5
    exact ⟨r,w',G',rv,st',hrun,k6 rv st' j4 (by rw [kx]; exact j5),j1,j2,j3⟩
  · have hsr:=hsrc [] k2 (fun d hd=>by cases hd) (by simp) (by simp)
    have run:∀ (A:Option Addr) (n cap:Nat),n≤cap→(Builtin.append_ #[t,t2] ty #[.slice A n cap,v]).run P w=.ok (.slice A n cap) w:=fun A n cap hn=>by
      rcases hsr with ⟨_,hnone⟩ | ⟨hpos,_⟩
      · exact hnone ty A n cap hn
      · simp at hpos
    have hu:∃ A n cap,u=.slice A n cap∧n≤cap:=by
      rw [kx] at r1
      cases r1 with
      | nil=>exact ⟨none,0,0,rfl,Nat.le_refl _⟩
      | emp a cap hm own he=>exact ⟨some a,0,cap,rfl,Nat.zero_le _⟩
      | sl _ _ b o k cap uu hk hF h1 hr hcap hm ho hown=>exact ⟨_,_,cap,rfl,hcap⟩
    obtain ⟨A,n,cap,hu,hn⟩:=hu
    rw [hu] at r1 ⊢
    exact ⟨_,w,G,x,st,run A n cap hn,k6,r1,.refl G,hw⟩
theorem method_run {t:TypeId} {name:String} {f:FuncId} (h:methOf P t name=some f) (n:Nat) (v:Value) (w:World):(method (n + 1) t v name).run P w=.ok (f,v) w:=by
  unfold methOf at h
  split at h
  · rename_i i e hi hu
    split at h
    · rename_i m hm
      split at h
      · rename_i hp
        split at h
        · rename_i f' hf
          simp only [Option.some.injEq] at h
          subst h
          simp [method,typeInfo,hi,hm,hp,follow,hf,receiverAt,run_underlying hu,Place.get]
        · cases h
      · cases h
    · cases h
  · cases h
theorem srcX_str {y:V} (h:(srcX none y).1):∃ s,y=.sc (.string s):=by
  cases y with
  | sc v=>cases v with
    | string s=>exact ⟨s,rfl⟩
    | _=>exact h.elim
  | _=>exact h.elim
theorem srcX_zero {d y:V} (h:(srcX (some d) y).1):∃ k n,y=.sc (.int k n)∧0≤n:=by
  cases y with
  | sc v=>cases v with
    | int k n=>exact ⟨k,n,rfl,h⟩
    | _=>exact h.elim
  | _=>exact h.elim
theorem zeroCells'_sc {elem:TypeId} {e:TypeInfo} {z v:Value} (he:P.info? elem=some e) (hz:e.zero=some z) (h:zeroCells' P elem=some [.sc v]):RepL G (V.sc v).cells z.cells:=by
  unfold zeroCells' at h
  rw [he] at h
  simp only [hz] at h
  split at h
  · rename_i hc
    simp only [Bool.and_eq_true,List.all_eq_true,Array.mem_toList_iff] at hc
    simp only [Option.some.injEq] at h
    have hlen:z.cells.size=1:=by have:=congrArg List.length h; simpa using this
    refine ⟨by rw [hlen]; rfl,fun i u hu=>hc.2 _ (Array.mem_of_getElem? hu),fun i c u hcc hu=>?_⟩
    have:(z.cells.toList.map cellV)[i]?=some c:=by rw [h]; exact hcc
    simp only [List.getElem?_map,Array.getElem?_toList,hu,Option.map_some,Option.some.injEq] at this
    rw [← this]
    exact cellV_rep G (hc.2 _ (Array.mem_of_getElem? hu))
  · cases h
theorem eqKind_bool {op:BinOp} {t:TypeId} {y:Operand} {neg:Bool} (h:eqKind P op t y=some (.inl neg)):op=(if neg then .neq else .eql)∧P.underlying t=some .bool:=by
  unfold eqKind at h
  split at h <;> simp only [Option.some.injEq,Sum.inl.injEq,reduceCtorEq] at h
  · subst h; exact ⟨rfl,by assumption⟩
  · subst h; exact ⟨rfl,by assumption⟩
theorem eqKind_slice {op:BinOp} {t:TypeId} {y:Operand} {neg:Bool} (h:eqKind P op t y=some (.inr (false,neg))):op=(if neg then .neq else .eql)∧∃ e,P.underlying t=some (.slice e)∧y=.const (.slice none 0 0):=by
  unfold eqKind at h
  split at h <;> simp only [Option.some.injEq,Sum.inr.injEq,Prod.mk.injEq,reduceCtorEq,true_and,false_and,Bool.true_eq_false] at h
  · subst h; exact ⟨rfl,_,by assumption,rfl⟩
  · subst h; exact ⟨rfl,_,by assumption,rfl⟩
theorem eqKind_ptr {op:BinOp} {t:TypeId} {y:Operand} {neg:Bool} (h:eqKind P op t y=some (.inr (true,neg))):op=(if neg then .neq else .eql)∧∃ e,P.underlying t=some (.pointer e)∧y=.const (.pointer none):=by
  unfold eqKind at h
  split at h <;> simp only [Option.some.injEq,Sum.inr.injEq,Prod.mk.injEq,reduceCtorEq,true_and,false_and,Bool.false_eq_true] at h
  · subst h; exact ⟨rfl,_,by assumption,rfl⟩
  · subst h; exact ⟨rfl,_,by assumption,rfl⟩
theorem mk_inv' {own:Bool} {t:TypeId} {l c:Operand} {vo:VOp} (h:cOp P own (.makeSlice t l c)=some vo):∃ elem e z,P.underlying t=some (.slice elem)∧P.info? elem=some e∧zeroCells' P elem=some z∧z.length=e.size∧0 < e.size ∧
    ((∃ (_:Unit) (x':X),(∀ {A:Nat→V} {a:Act} {G:Gh},RelOn x'.reads G A a→Rep1 G (x'.ev A) (a.eval l))∧(∀ {A:Nat→V} {a:Act} {G:Gh},RelOn x'.reads G A a→Rep1 G (x'.ev A) (a.eval c))∧True∧vo=.mks e.size e.bytes z x') ∨
     (∃ (_:Unit) (x':X),(∀ {A:Nat→V} {a:Act} {G:Gh},RelOn x'.reads G A a→Rep1 G (x'.ev A) (a.eval c))∧l=.const (.int .i64 0)∧vo=.mko e.size e.bytes z x')):=by
  simp only [cOp] at h
  split at h
  · rename_i elem hu
    split at h
    · rename_i e hi
      split at h
      · rename_i z hz
        split at h
        · rename_i hzl
          refine ⟨elem,e,z,hu,hi,hz,hzl.1,hzl.2,?_⟩
          split at h
          · simp only [Option.pure_def,Option.bind_eq_bind,Option.bind_eq_some_iff,Option.some.injEq] at h
            obtain ⟨x',hx,rfl⟩:=h
            exact .inr ⟨(),x',fun hr=>cx_rep hx hr fun t ht=>ht,rfl,rfl⟩
          · split at h
            · rename_i x y hxy
              simp only [Option.some.injEq] at h
              subst hxy; subst h
              exact .inl ⟨(),.t x,fun hr=>cx_rep (o:=.tmp x) rfl hr fun t ht=>ht,fun hr=>cx_rep (o:=.tmp x) rfl hr fun t ht=>ht,trivial,rfl⟩
            · cases h
          · split at h
            · rename_i x y _ hxy
              simp only [Option.some.injEq] at h
              subst hxy; subst h
              exact .inl ⟨(),.c (.sc (.int .i64 x)),fun hr=>.sc _ rfl,fun hr=>.sc _ rfl,trivial,rfl⟩
            · cases h
          · cases h
        · cases h
      · cases h
    · cases h
  · cases h
theorem mapK_inv {t:TypeId} {m:Bool × List Lf} (h:mapK P t=some m):∃ kt et,P.underlying t=some (.map kt et)∧leafs P 8 kt=some m.2∧m.1=isA P kt:=by
  unfold mapK at h
  split at h
  · rename_i k e hu
    simp only [Option.map_eq_some_iff] at h
    obtain ⟨l,hl,rfl⟩:=h
    exact ⟨k,e,hu,hl,rfl⟩
  · cases h
theorem mapZ_inv {t kt et:TypeId} {z:V} (hu:P.underlying t=some (.map kt et)) (h:mapZ P t=some z):zeroV P et=some z:=by
  unfold mapZ at h
  rw [hu] at h
  exact h
theorem allSc_rep:∀ {l:List V} {r:List Value} (_:allSc l=some r) {us:List Value},us.length=l.length→(∀ (i:Nat) (d:V) (u:Value),l[i]?=some d→us[i]?=some u→Rep1 G d u)→us=r
  | [],r,h,us,hl,_=>by
    simp only [allSc,Option.some.injEq] at h
    subst h
    exact List.eq_nil_of_length_eq_zero hl
  | d :: l,r,h,[],hl,_=>by simp at hl
  | d :: l,r,h,u :: us,hl,hr=>by
    unfold allSc at h
    split at h
    · rename_i e; cases e
    · rename_i v l' e
      cases e
      simp only [Option.map_eq_some_iff] at h
      obtain ⟨r',hr',rfl⟩:=h
      rw [allSc_rep hr' (us:=us) (by simpa using hl) (fun i d u hd hu=>hr (i + 1) d u (by simpa using hd) (by simpa using hu)),(hr 0 _ u rfl rfl).sc_inv]
    · cases h
theorem mapM_reps {l:List Operand} {xs:List X} (h:l.mapM cx=some xs) (hr:∀ t ∈ xs.flatMap X.reads,Rep1 G (A t) (a.tmps.getD t undef)):∀ (i:Nat) (d:V) (u:Value),(xs.map fun x=>x.ev A)[i]?=some d→(l.map a.eval)[i]?=some u→Rep1 G d u:=fun i d u hd hu=>by
  obtain ⟨hlen,hget⟩:=mapM_get h
  simp only [List.getElem?_map,Option.map_eq_some_iff] at hd hu
  obtain ⟨x,hx,rfl⟩:=hd
  obtain ⟨o',ho,rfl⟩:=hu
  exact cx_rep (hget i o' x ho hx) (l:=xs.flatMap X.reads) hr (fun t ht=>List.mem_flatMap.2 ⟨x,List.mem_of_getElem? hx,ht⟩)
theorem pop_sound {own:Bool} {o:Oper} {vo:VOp} (hc:cOp P own o.op=some vo) (hp:vo.isPop=true) (hw:RepW w0 G st w) (hr:RelOn vo.reads G A a) (hs:(pop st A vo).1) :
    ∃ u w' G',(execOp a.eval o).run P w=.ok (.value u) w'∧Rep1 G' (pop st A vo).2 u∧G.le G'∧RepW w0 G' st w':=by
  have keep:∀ {s:Sem Value} {r:V},(∃ u,s.run P w=.ok u w∧Rep1 G r u)→∃ u w' G',(do pure (Next.value (← s)):Sem Next).run P w=.ok (.value u) w'∧Rep1 G' r u∧G.le G'∧RepW w0 G' st w' :=
    fun ⟨u,h1,h2⟩=>⟨u,w,G,run_v h1,h2,.refl G,hw⟩
  unfold execOp
  cases hop:o.op <;> simp only [hop,cOp] at hc ⊢ <;> try (cases hc; done)
  case move x =>
    simp only [Option.map_eq_some_iff] at hc
    obtain ⟨x',hx,rfl⟩:=hc
    exact ⟨_,w,G,rfl,cx_rep hx hr (fun t h=>h),.refl G,hw⟩
  case assign x =>
    simp only [Option.map_eq_some_iff] at hc
    obtain ⟨x',hx,rfl⟩:=hc
    exact ⟨_,w,G,rfl,cx_rep hx hr (fun t h=>h),.refl G,hw⟩
  case pick c x y =>
    simp only [Option.pure_def,Option.bind_eq_bind,Option.bind_eq_some_iff,Option.some.injEq] at hc
    obtain ⟨c',h1,x',h2,y',h3,rfl⟩:=hc
    have r1:=cx_rep h1 hr (by simp only [VOp.reads,List.mem_append]; exact fun t h=>.inl (.inl h))
    have r2:=cx_rep h2 hr (by simp only [VOp.reads,List.mem_append]; exact fun t h=>.inl (.inr h))
    have r3:=cx_rep h3 hr (by simp only [VOp.reads,List.mem_append]; exact fun t h=>.inr h)
    simp only [pop] at hs ⊢
    unfold vpick at hs ⊢
    split at hs
    · rename_i b hb
      rw [hb] at r1
      have e1:=r1.sc_inv
      refine ⟨if b then a.eval x else a.eval y,w,G,by simp only [e1,asBool,Sem.run_bind,Sem.run_pure,Result.andThen_ok],?_,.refl G,hw⟩
      cases b
      · exact r3
      · exact r2
    · exact hs.elim
  case alloc t =>
    simp only [Option.map_eq_some_iff] at hc
    obtain ⟨z,_,rfl⟩:=hc
    simp [VOp.isPop] at hp
  case box t x =>
    simp only [Option.map_eq_some_iff] at hc
    obtain ⟨z,_,rfl⟩:=hc
    simp [VOp.isPop] at hp
  case store t x y =>
    simp only [Option.pure_def,Option.bind_eq_bind,Option.bind_eq_some_iff,Option.some.injEq] at hc
    obtain ⟨_,_,_,_,_,_,rfl⟩:=hc
    simp [VOp.isPop] at hp
  case binOp op xt x y yt =>
    split at hc
    · rename_i neg he
      simp only [Option.pure_def,Option.bind_eq_bind,Option.bind_eq_some_iff,Option.some.injEq] at hc
      obtain ⟨x',h1,y',h2,rfl⟩:=hc
      have r1:=cx_rep h1 hr (by simp only [VOp.reads,List.mem_append]; exact fun t h=>.inl h)
      have r2:=cx_rep h2 hr (by simp only [VOp.reads,List.mem_append]; exact fun t h=>.inr h)
      obtain ⟨hop',hu⟩:=eqKind_bool he
      have:=vbinb_sound (P:=P) (G:=G) hu x y r1 r2 hs w
      rw [← hop'] at this
      exact keep this
    · rename_i neg he
      simp only [Option.pure_def,Option.bind_eq_bind,Option.bind_eq_some_iff,Option.some.injEq] at hc
      obtain ⟨x',h1,rfl⟩:=hc
      obtain ⟨hop',e,hu,hy⟩:=eqKind_slice he
      have:=visnil_sound (P:=P) (G:=G) hu x y (cx_rep h1 hr (fun t h=>h)) hs w
      rw [← hop'] at this
      subst hy
      exact keep this
    · rename_i neg he
      simp only [Option.pure_def,Option.bind_eq_bind,Option.bind_eq_some_iff,Option.some.injEq] at hc
      obtain ⟨x',h1,rfl⟩:=hc
      obtain ⟨hop',e,hu,hy⟩:=eqKind_ptr he
      have:=vpnil_sound (P:=P) (G:=G) hu x y (cx_rep h1 hr (fun t h=>h)) hs w
      rw [← hop'] at this
      subst hy
      exact keep this
    · split at hc
      · rename_i neg l he
        simp only [Option.pure_def,Option.bind_eq_bind,Option.bind_eq_some_iff,Option.some.injEq] at hc
        obtain ⟨x',h1,y',h2,rfl⟩:=hc
        have r1:=cx_rep h1 hr (by simp only [VOp.reads,List.mem_append]; exact fun t h=>.inl h)
        have r2:=cx_rep h2 hr (by simp only [VOp.reads,List.mem_append]; exact fun t h=>.inr h)
        exact keep (veqs_sound (P:=P) (G:=G) he x y r1 r2 hs w)
      · split at hc
        · rename_i neg he
          simp only [Option.pure_def,Option.bind_eq_bind,Option.bind_eq_some_iff,Option.some.injEq] at hc
          obtain ⟨x',h1,rfl⟩:=hc
          obtain ⟨hop',k,e,hu,hy⟩:=mnilOf_inv he
          have:=vmnil_sound (P:=P) (G:=G) hu x y (cx_rep h1 hr (fun t h=>h)) hs w
          rw [← hop'] at this
          subst hy
          exact keep this
        split at hc
        · rename_i neg he
          simp only [Option.pure_def,Option.bind_eq_bind,Option.bind_eq_some_iff,Option.some.injEq] at hc
          obtain ⟨x',h1,rfl⟩:=hc
          obtain ⟨hop',ms,hu,hy⟩:=inilOf_inv he
          have:=vinil_sound (P:=P) (G:=G) hu x (cx_rep h1 hr (fun t h=>h)) hs w
          rw [← hop'] at this
          subst hy
          exact keep this
        cases own
        · simp only [Bool.false_eq_true,if_false,Option.pure_def,Option.bind_eq_bind,Option.bind_eq_some_iff,Option.some.injEq] at hc
          obtain ⟨x',h1,y',h2,rfl⟩:=hc
          have r1:=cx_rep h1 hr (by simp only [VOp.reads,List.mem_append]; exact fun t h=>.inl h)
          have r2:=cx_rep h2 hr (by simp only [VOp.reads,List.mem_append]; exact fun t h=>.inr h)
          exact keep (vbinZ_sound xt x y r1 r2 hs w)
        · simp only [if_true,Option.pure_def,Option.bind_eq_bind,Option.bind_eq_some_iff,Option.some.injEq] at hc
          obtain ⟨x',h1,y',h2,rfl⟩:=hc
          have r1:=cx_rep h1 hr (by simp only [VOp.reads,List.mem_append]; exact fun t h=>.inl h)
          have r2:=cx_rep h2 hr (by simp only [VOp.reads,List.mem_append]; exact fun t h=>.inr h)
          exact keep (vbin_sound xt x y r1 r2 hs w)
  case unOp op xt x =>
    simp only [Option.pure_def,Option.bind_eq_bind,Option.bind_eq_some_iff,Option.some.injEq] at hc
    obtain ⟨x',h1,rfl⟩:=hc
    exact keep (vun_sound (cx_rep h1 hr (fun t h=>h)) hs w)
  case convert sT dT x =>
    split at hc
    · rename_i hb
      simp only [Option.map_eq_some_iff] at hc
      obtain ⟨x',hx,rfl⟩:=hc
      cases own
      · exact keep (vb2sB_sound hb hw (cx_rep hx hr (fun t h=>h)) hs)
      · exact keep (vb2s_sound hb hw (cx_rep hx hr (fun t h=>h)) hs)
    · split at hc
      · rename_i hb
        simp only [Option.map_eq_some_iff] at hc
        obtain ⟨x',hx,rfl⟩:=hc
        obtain ⟨r,w',G',h1,h2,h3,h4⟩:=s2b_sound (P:=P) hb hw (cx_rep hx hr (fun t h=>h)) hs
        exact ⟨r,w',G',run_v h1,h2,h3,h4⟩
      simp only [Option.pure_def,Option.bind_eq_bind,Option.bind_eq_some_iff,Option.some.injEq] at hc
      obtain ⟨k,h0,x',h1,rfl⟩:=hc
      unfold intOf2? at h0
      split at h0
      · rename_i sd k' hsd hk
        simp only [Option.some.injEq] at h0
        subst h0
        exact keep (vconv_sound hsd hk (cx_rep h1 hr (fun t h=>h)) hs)
      · cases h0
  case makeSlice t l c =>
    have hc':cOp P own (.makeSlice t l c)=some vo:=by simp only [cOp]; exact hc
    obtain ⟨_,_,_,_,_,_,_,_,hm⟩:=mk_inv' hc'
    rcases hm with ⟨_,_,_,_,_,h⟩ | ⟨_,_,_,_,h⟩ <;> (rw [h] at hp; simp [VOp.isPop] at hp)
  case fieldAddr sT x f =>
    split at hc
    · rename_i fields hu
      split at hc
      · rename_i fd hf
        split at hc
        · rename_i i hi
          split at hc
          · cases hc
          · rename_i h0
            simp only [Option.map_eq_some_iff] at hc
            obtain ⟨x',hx,rfl⟩:=hc
            exact keep (vfld_sound hu hf hi h0 (cx_rep hx hr (fun t h=>h)) hs)
        · cases hc
      · cases hc
    · cases hc
  case indexAddr t x i =>
    split at hc
    · rename_i elem hu
      split at hc
      · rename_i e he
        simp only [Option.pure_def,Option.bind_eq_bind,Option.bind_eq_some_iff,Option.some.injEq] at hc
        obtain ⟨x',h1,y',h2,rfl⟩:=hc
        exact keep (vix_sound hu he (cx_rep h1 hr (by simp only [VOp.reads,List.mem_append]; exact fun t h=>.inl h)) (cx_rep h2 hr (by simp only [VOp.reads,List.mem_append]; exact fun t h=>.inr h)) hs)
      · cases hc
    · rename_i n elem hu
      split at hc
      · rename_i e he
        simp only [Option.pure_def,Option.bind_eq_bind,Option.bind_eq_some_iff,Option.some.injEq] at hc
        obtain ⟨x',h1,y',h2,rfl⟩:=hc
        exact keep (vixa_sound hu he (cx_rep h1 hr (by simp only [VOp.reads,List.mem_append]; exact fun t h=>.inl h)) (cx_rep h2 hr (by simp only [VOp.reads,List.mem_append]; exact fun t h=>.inr h)) hs)
      · cases hc
    · cases hc
  case index t x i =>
    split at hc
    · rename_i hu
      simp only [Option.pure_def,Option.bind_eq_bind,Option.bind_eq_some_iff,Option.some.injEq] at hc
      obtain ⟨x',h1,y',h2,rfl⟩:=hc
      exact keep (sidx_sound hu (cx_rep h1 hr (by simp only [VOp.reads,List.mem_append]; exact fun t h=>.inl h)) (cx_rep h2 hr (by simp only [VOp.reads,List.mem_append]; exact fun t h=>.inr h)) hs w)
    · rename_i n elem hu
      split at hc
      · rename_i e he
        split at hc
        · rename_i hcond
          simp only [Option.pure_def,Option.bind_eq_bind,Option.bind_eq_some_iff,Option.some.injEq] at hc
          obtain ⟨x',h1,y',h2,rfl⟩:=hc
          exact keep (aidx_sound hu he hcond.1 hcond.2.1 hcond.2.2 (cx_rep h1 hr (by simp only [VOp.reads,List.mem_append]; exact fun t h=>.inl h)) (cx_rep h2 hr (by simp only [VOp.reads,List.mem_append]; exact fun t h=>.inr h)) hs w)
        · split at hc
          · rename_i hcond hA
            simp only [Option.pure_def,Option.bind_eq_bind,Option.bind_eq_some_iff,Option.some.injEq] at hc
            obtain ⟨x',h1,y',h2,rfl⟩:=hc
            exact keep (aidxn_sound hu he hA (cx_rep h1 hr (by simp only [VOp.reads,List.mem_append]; exact fun t h=>.inl h)) (cx_rep h2 hr (by simp only [VOp.reads,List.mem_append]; exact fun t h=>.inr h)) hs w)
          · cases hc
      · cases hc
    · cases hc
  case load t x =>
    simp only [Option.pure_def,Option.bind_eq_bind,Option.bind_eq_some_iff,Option.some.injEq] at hc
    obtain ⟨⟨n,size⟩,h0,x',h1,rfl⟩:=hc
    exact keep (vload_sound h0 hw (cx_rep h1 hr (fun t h=>h)) hs)
  case nilCheck x =>
    simp only [Option.map_eq_some_iff] at hc
    obtain ⟨x',hx,rfl⟩:=hc
    have r1:=cx_rep hx hr (fun t h=>h)
    simp only [pop] at hs ⊢
    unfold vnil at hs ⊢
    split at hs
    · rename_i b hb
      rw [hb] at r1
      rw [r1.sc_inv]
      exact ⟨_,w,G,rfl,.sc _ rfl,.refl G,hw⟩
    · rename_i cs off hb
      rw [hb] at r1
      have r2:=r1
      generalize a.eval x=u at r1 r2
      cases r1
      exact ⟨_,w,G,rfl,r2,.refl G,hw⟩
    · exact hs.elim
  case extract x i =>
    simp only [Option.map_eq_some_iff] at hc
    obtain ⟨x',hx,rfl⟩:=hc
    exact keep (vext_sound (cx_rep hx hr (fun t h=>h)) hs)
  case build t parts =>
    simp only [Option.pure_def,Option.bind_eq_bind,Option.bind_eq_some_iff,Option.some.injEq] at hc
    obtain ⟨z,hz,pl,hpl,ps,hps,rfl⟩:=hc
    obtain ⟨hlen,hget⟩:=mapM_get hps
    have e:(parts.map fun x=>(x.1,a.eval x.2))=((parts.toList.map fun x=>(x.1,a.eval x.2))).toArray:=by rw [← Array.toList_map,Array.toArray_toList]
    have hs':(fillV z (ps.map fun p=>(p.1,p.2.1,p.2.2.ev A))).1:=hs
    have:=build_sound (P:=P) (G:=G) (parts:=parts.toList.map fun x=>(x.1,a.eval x.2)) (ps:=ps.map fun p=>(p.1,p.2.1,p.2.2.ev A)) hz hpl (by simp [hlen]) (fun i p q hp hq=>by
      simp only [List.getElem?_map,Option.map_eq_some_iff] at hp hq
      obtain ⟨p',hp',rfl⟩:=hp
      obtain ⟨q',hq',rfl⟩:=hq
      have h1:=hget i q' p' hq' hp'
      simp only [Option.bind_eq_some_iff,Option.some.injEq] at h1
      obtain ⟨y,hy,y2,hy2,xx,hxx,rfl⟩:=h1
      rw [hy] at hy2; cases hy2
      refine ⟨hy,cx_rep hxx hr (fun t ht=>?_)⟩
      simp only [VOp.reads,List.mem_flatMap]
      exact ⟨_,List.mem_of_getElem? hp',ht⟩) hs' w
    rw [← e] at this
    exact keep this
  case buildSlice t len parts =>
    split at hc
    · rename_i elem hu
      split at hc
      · rename_i e he
        split at hc
        · rename_i hcond
          simp only [Option.pure_def,Option.bind_eq_bind,Option.bind_eq_some_iff] at hc
          obtain ⟨xs,hxs,z,hz,hc⟩:=hc
          split at hc
          · rename_i hzl
            cases own
            · simp only [Bool.false_eq_true,if_false,Option.some.injEq] at hc
              subst hc
              obtain ⟨hlen,hget⟩:=mapM_get hxs
              have hpl:parts.toList.length=len:=by have:=congrArg List.length hcond.1; simpa using this
              have ee:(parts.map fun x=>(x.1,a.eval x.2))=((parts.toList.map fun x=>(x.1,a.eval x.2))).toArray:=by rw [← Array.toList_map,Array.toArray_toList]
              have hs':allLen e.size (xs.map fun x=>strip (x.ev A)):=hs
              obtain ⟨r,w',G',h1,h2,h3,h4⟩:=bsl_sound (P:=P) hw hu he hcond.2.2 hcond.2.1 hz hzl (parts:=parts.toList.map fun x=>(x.1,a.eval x.2)) (by rw [List.map_map]; exact hcond.1) (ds:=xs.map fun x=>strip (x.ev A)) (by simp [hlen,hpl]) (fun i d q hd hq=>by
                simp only [List.getElem?_map,Option.map_eq_some_iff] at hd hq
                obtain ⟨x',hx',rfl⟩:=hd
                obtain ⟨q',hq',rfl⟩:=hq
                refine strip_rep (cx_rep (hget i q' x' hq' hx') hr (fun t ht=>?_))
                simp only [VOp.reads,List.mem_flatMap]
                exact ⟨_,List.mem_of_getElem? hx',ht⟩) hs'
              rw [← ee] at h1
              exact ⟨r,w',G',run_v h1,h2,h3,h4⟩
            · simp only [if_true,Option.some.injEq] at hc
              subst hc
              simp [VOp.isPop] at hp
          · cases hc
        · cases hc
      · cases hc
    · cases hc
  case slice t x lo hi mx =>
    split at hc
    · rename_i elem hu
      split at hc
      · rename_i e he
        simp only [Option.pure_def,Option.bind_eq_bind,Option.bind_eq_some_iff,Option.some.injEq] at hc
        obtain ⟨x',h1,lo',h2,hi',h3,rfl⟩:=hc
        exact keep (vslc_sound hu he (cx_rep h1 hr (by simp only [VOp.reads,List.mem_append]; exact fun t h=>.inl (.inl h))) (opt_rep h2 hr (by simp only [VOp.reads,List.mem_append]; exact fun t h=>.inl (.inr h))) (opt_rep h3 hr (by simp only [VOp.reads,List.mem_append]; exact fun t h=>.inr h)) hs)
      · cases hc
    · rename_i hu
      simp only [Option.pure_def,Option.bind_eq_bind,Option.bind_eq_some_iff,Option.some.injEq] at hc
      obtain ⟨x',h1,lo',h2,hi',h3,rfl⟩:=hc
      exact keep (vsslc_sound hu (cx_rep h1 hr (by simp only [VOp.reads,List.mem_append]; exact fun t h=>.inl (.inl h))) (opt_rep h2 hr (by simp only [VOp.reads,List.mem_append]; exact fun t h=>.inl (.inr h))) (opt_rep h3 hr (by simp only [VOp.reads,List.mem_append]; exact fun t h=>.inr h)) hs)
    · rename_i n elem hu
      split at hc
      · rename_i e he
        simp only [Option.pure_def,Option.bind_eq_bind,Option.bind_eq_some_iff,Option.some.injEq] at hc
        obtain ⟨x',h1,lo',h2,hi',h3,rfl⟩:=hc
        exact keep (vslcA_sound hu he (cx_rep h1 hr (by simp only [VOp.reads,List.mem_append]; exact fun t h=>.inl (.inl h))) (opt_rep h2 hr (by simp only [VOp.reads,List.mem_append]; exact fun t h=>.inl (.inr h))) (opt_rep h3 hr (by simp only [VOp.reads,List.mem_append]; exact fun t h=>.inr h)) hs)
      · cases hc
    · rename_i m elem hu
      split at hc
      · rename_i e h he
        simp only [Option.pure_def,Option.bind_eq_bind,Option.bind_eq_some_iff,Option.some.injEq] at hc
        obtain ⟨x',h1,lo',h2,y',h3,z',h4,rfl⟩:=hc
        exact keep (vslc3_sound hu he (cx_rep h1 hr (by simp only [VOp.reads,List.mem_append]; exact fun t h=>.inl (.inl (.inl h)))) (opt_rep h2 hr (by simp only [VOp.reads,List.mem_append]; exact fun t h=>.inl (.inl (.inr h)))) (cx_rep h3 hr (by simp only [VOp.reads,List.mem_append]; exact fun t h=>.inl (.inr h))) (cx_rep h4 hr (by simp only [VOp.reads,List.mem_append]; exact fun t h=>.inr h)) hs)
      · cases hc
    · cases hc
  case sliceToArrayPointer arr x =>
    split at hc
    · rename_i n elem hu
      split at hc
      · rename_i e he
        split at hc
        · rename_i h0
          simp only [Option.map_eq_some_iff] at hc
          obtain ⟨x',hx,rfl⟩:=hc
          exact keep (vs2a_sound hu h0 (cx_rep hx hr (fun t h=>h)) hs)
        · cases hc
      · cases hc
    · cases hc
  case call c =>
    obtain ⟨cal,args,tys⟩:=c
    simp only at hc
    split at hc
    · rename_i f
      split at hc
      · simp only [Option.pure_def,Option.bind_eq_bind,Option.bind_eq_some_iff,Option.some.injEq] at hc
        obtain ⟨_,_,rfl⟩:=hc
        simp [VOp.isPop] at hp
      · cases hc
    · simp only [Option.pure_def,Option.bind_eq_bind,Option.bind_eq_some_iff,Option.some.injEq] at hc
      obtain ⟨_,_,rfl⟩:=hc
      simp [VOp.isPop] at hp
    · simp only [Option.pure_def,Option.bind_eq_bind,Option.bind_eq_some_iff,Option.some.injEq] at hc
      obtain ⟨_,_,rfl⟩:=hc
      simp [VOp.isPop] at hp
    · split at hc
      · rename_i x t hx ht
        have hx':args=#[x]:=by cases args; simp at hx; simp [hx]
        have ht':tys=#[t]:=by cases tys; simp at ht; simp [ht]
        subst hx' ht'
        split at hc
        · rename_i e hu
          simp only [Option.map_eq_some_iff] at hc
          obtain ⟨x',hx1,rfl⟩:=hc
          obtain ⟨u,h1,h2⟩:=vlen_sound (P:=P) (w:=w) (ts:=#[t]) (ty:=o.type) (us:=#[a.eval x]) rfl hu rfl (cx_rep hx1 hr (fun t h=>h)) hs
          exact ⟨u,w,G,by simp [resolve,invoke,builtin,h1],h2,.refl G,hw⟩
        · rename_i hu
          simp only [Option.map_eq_some_iff] at hc
          obtain ⟨x',hx1,rfl⟩:=hc
          obtain ⟨u,h1,h2⟩:=vslen_sound (P:=P) (w:=w) (ts:=#[t]) (ty:=o.type) (us:=#[a.eval x]) rfl hu rfl (cx_rep hx1 hr (fun t h=>h)) hs
          exact ⟨u,w,G,by simp [resolve,invoke,builtin,h1],h2,.refl G,hw⟩
        · rename_i kt et hu
          simp only [Option.map_eq_some_iff] at hc
          obtain ⟨x',hx1,rfl⟩:=hc
          obtain ⟨u,h1,h2⟩:=mlen_sound (P:=P) (ty:=o.type) hu hw (cx_rep hx1 hr (fun t h=>h)) hs
          exact ⟨u,w,G,by simp [resolve,invoke,builtin,h1],h2,.refl G,hw⟩
        · cases hc
      · cases hc
    · split at hc
      · rename_i x y hx
        have hx':args=#[x,y]:=by cases args; simp at hx; simp [hx]
        subst hx'
        simp only [Option.pure_def,Option.bind_eq_bind,Option.bind_eq_some_iff,Option.some.injEq] at hc
        obtain ⟨x',h1,y',h2,rfl⟩:=hc
        obtain ⟨u,h1,h2⟩:=vmm_sound (P:=P) (w:=w) (mx:=false) (cx_rep h1 hr (by simp only [VOp.reads,List.mem_append]; exact fun t h=>.inl h)) (cx_rep h2 hr (by simp only [VOp.reads,List.mem_append]; exact fun t h=>.inr h)) hs tys o.type
        simp only [Bool.false_eq_true,if_false] at h1
        exact ⟨u,w,G,by simp [resolve,invoke,builtin,h1],h2,.refl G,hw⟩
      · cases hc
    · split at hc
      · rename_i x y hx
        have hx':args=#[x,y]:=by cases args; simp at hx; simp [hx]
        subst hx'
        simp only [Option.pure_def,Option.bind_eq_bind,Option.bind_eq_some_iff,Option.some.injEq] at hc
        obtain ⟨x',h1,y',h2,rfl⟩:=hc
        obtain ⟨u,h1,h2⟩:=vmm_sound (P:=P) (w:=w) (mx:=true) (cx_rep h1 hr (by simp only [VOp.reads,List.mem_append]; exact fun t h=>.inl h)) (cx_rep h2 hr (by simp only [VOp.reads,List.mem_append]; exact fun t h=>.inr h)) hs tys o.type
        simp only [if_true] at h1
        exact ⟨u,w,G,by simp [resolve,invoke,builtin,h1],h2,.refl G,hw⟩
      · cases hc
    · split at hc
      · split at hc
        · split at hc
          · split at hc
            · split at hc
              · split at hc
                · simp only [Option.pure_def,Option.bind_eq_bind,Option.bind_eq_some_iff,Option.some.injEq] at hc
                  obtain ⟨_,_,_,_,rfl⟩:=hc
                  simp [VOp.isPop] at hp
                · simp only [Option.pure_def,Option.bind_eq_bind,Option.bind_eq_some_iff,Option.some.injEq] at hc
                  obtain ⟨_,_,_,_,rfl⟩:=hc
                  simp [VOp.isPop] at hp
                · cases hc
              · cases hc
            · cases hc
          · cases hc
        · cases hc
      · cases hc
    · split at hc
      · split at hc
        · split at hc
          · split at hc
            · split at hc
              · simp only [Option.pure_def,Option.bind_eq_bind,Option.bind_eq_some_iff,Option.some.injEq] at hc
                obtain ⟨_,_,_,_,rfl⟩:=hc
                simp [VOp.isPop] at hp
              · cases hc
            · cases hc
          · cases hc
        · cases hc
      · cases hc
    · split at hc
      · simp only [Option.pure_def,Option.bind_eq_bind,Option.bind_eq_some_iff,Option.some.injEq] at hc
        obtain ⟨_,_,_,_,_,_,rfl⟩:=hc
        simp [VOp.isPop] at hp
      · cases hc
    · split at hc
      · split at hc
        · split at hc
          · split at hc
            · simp only [Option.map_eq_some_iff] at hc
              obtain ⟨_,_,rfl⟩:=hc
              simp [VOp.isPop] at hp
            · cases hc
          · cases hc
        · simp only [Option.map_eq_some_iff] at hc
          obtain ⟨_,_,rfl⟩:=hc
          simp [VOp.isPop] at hp
        · cases hc
      · cases hc
    · cases hc
  case makeMap t r =>
    cases r with
    | some r=>simp only at hc; cases hc
    | none =>
      simp only [Option.pure_def,Option.bind_eq_bind,Option.bind_eq_some_iff,Option.some.injEq] at hc
      obtain ⟨_,_,rfl⟩:=hc
      simp [VOp.isPop] at hp
  case mapUpdate t x k v =>
    simp only [Option.pure_def,Option.bind_eq_bind,Option.bind_eq_some_iff,Option.some.injEq] at hc
    obtain ⟨_,_,_,_,_,_,_,_,rfl⟩:=hc
    simp [VOp.isPop] at hp
  case insert t x k v =>
    simp only [Option.pure_def,Option.bind_eq_bind,Option.bind_eq_some_iff,Option.some.injEq] at hc
    obtain ⟨_,_,_,_,_,_,_,_,rfl⟩:=hc
    simp [VOp.isPop] at hp
  case mapEntry t x k =>
    simp only [Option.pure_def,Option.bind_eq_bind,Option.bind_eq_some_iff,Option.some.injEq] at hc
    obtain ⟨_,_,_,_,_,_,_,_,rfl⟩:=hc
    simp [VOp.isPop] at hp
  case entryStore t x s v =>
    simp only [Option.pure_def,Option.bind_eq_bind,Option.bind_eq_some_iff,Option.some.injEq] at hc
    obtain ⟨_,_,_,_,_,_,rfl⟩:=hc
    simp [VOp.isPop] at hp
  case range t x =>
    split at hc
    · simp only [Option.map_eq_some_iff] at hc
      obtain ⟨_,_,rfl⟩:=hc
      simp [VOp.isPop] at hp
    · simp only [Option.map_eq_some_iff] at hc
      obtain ⟨_,_,rfl⟩:=hc
      simp [VOp.isPop] at hp
    · cases hc
  case next x str =>
    split at hc
    · simp only [Option.map_eq_some_iff] at hc
      obtain ⟨_,_,rfl⟩:=hc
      simp [VOp.isPop] at hp
    · simp only [Option.map_eq_some_iff] at hc
      obtain ⟨_,_,rfl⟩:=hc
      simp [VOp.isPop] at hp
  case lookup t x k ok =>
    simp only [Option.pure_def,Option.bind_eq_bind,Option.bind_eq_some_iff,Option.some.injEq] at hc
    obtain ⟨m,hm,z,hz,x',h1,k',h2,rfl⟩:=hc
    obtain ⟨kt,et,hu,hl,hag⟩:=mapK_inv hm
    have r1:=cx_rep h1 hr (by simp only [VOp.reads,List.mem_append]; exact fun t h=>.inl h)
    have r2:=cx_rep h2 hr (by simp only [VOp.reads,List.mem_append]; exact fun t h=>.inr h)
    simp only [pop,hag] at hs ⊢
    exact keep (mlk_sound hu hl (mapZ_inv hu hz) ok hw r1 r2 hs)
  case entry x =>
    simp only [Option.map_eq_some_iff] at hc
    obtain ⟨x',hx,rfl⟩:=hc
    exact keep (ent_sound hw (cx_rep hx hr (fun t h=>h)) hs)
  case field t x f =>
    split at hc
    · rename_i fields hu
      split at hc
      · rename_i fd hf
        split at hc
        · rename_i i hi
          split at hc
          · rename_i hA
            simp only [Option.map_eq_some_iff] at hc
            obtain ⟨x',hx,rfl⟩:=hc
            exact keep (fvn_sound hu hf hi hA (cx_rep hx hr (fun t h=>h)) hs w)
          · split at hc
            · rename_i hA hU
              simp only [Option.map_eq_some_iff] at hc
              obtain ⟨x',hx,rfl⟩:=hc
              exact keep (fv1_sound hu hf (by simpa using hA) hU (cx_rep hx hr (fun t h=>h)) hs w)
            · cases hc
        · cases hc
      · cases hc
    · cases hc
  case makeInterface t x =>
    split at hc
    · cases hc
    · rename_i d hd hu
      simp only [Option.pure_def,Option.bind_eq_bind,Option.bind_eq_some_iff,Option.some.injEq] at hc
      obtain ⟨x',h1,rfl⟩:=hc
      exact keep (mki_sound hu (fun m e=>hd m e) (cx_rep h1 hr (fun t h=>h)) hs w)
    · cases hc
  case makeFunc f fs cs =>
    simp only [Option.pure_def,Option.bind_eq_bind,Option.bind_eq_some_iff,Option.some.injEq] at hc
    obtain ⟨xs,h1,ys,h2,rfl⟩:=hc
    have r1:=mapM_reps (G:=G) (A:=A) (a:=a) h1 (fun t ht=>hr t (by simp only [VOp.reads,List.mem_append]; exact .inl ht))
    have r2:=mapM_reps (G:=G) (A:=A) (a:=a) h2 (fun t ht=>hr t (by simp only [VOp.reads,List.mem_append]; exact .inr ht))
    simp only [pop] at hs ⊢
    unfold vmfn at hs ⊢
    split at hs
    · rename_i u v hu hv
      have e1:=allSc_rep (G:=G) hu (us:=fs.toList.map a.eval) (by simp [(mapM_get h1).1]) r1
      have e2:=allSc_rep (G:=G) hv (us:=cs.toList.map a.eval) (by simp [(mapM_get h2).1]) r2
      refine ⟨.func f (fs.map a.eval) (cs.map a.eval),w,G,by simp [Instr.makeFunc],?_,.refl G,hw⟩
      have k1:fs.map a.eval=u.toArray:=by rw [← e1]; apply Array.toList_inj.1; simp
      have k2:cs.map a.eval=v.toArray:=by rw [← e2]; apply Array.toList_inj.1; simp
      rw [k1,k2]
      exact .sc _ rfl
    · exact hs.elim
def Left (_:Program) (w0:Fr) (G:Gh) (o:Oper) (a:Act) (K:V→St→Prop) (next:Act→World→Prop):Prop :=
  ∀ r u st' w' G',K r st'→Rep1 G' r u→G.le G'→RepW w0 G' st' w'→next (a.put o.dst u) w'
theorem wp_value {o:Oper} {u:Value} {w':World} {next:Act→World→Prop} {Q:Exit→Act→World→Prop} (h:(execOp a.eval o).run P w=.ok (.value u) w') (hn:next (a.put o.dst u) w'):o.wp P a w next Q:=by
  unfold Oper.wp; rw [h]; exact hn
theorem wp_skip' {o:Oper} {w':World} {next:Act→World→Prop} {Q:Exit→Act→World→Prop} (h:(execOp a.eval o).run P w=.ok .skip w') (hn:next (a.put o.dst undef) w'):o.wp P a w next Q:=by
  unfold Oper.wp; rw [h]; exact hn
theorem callable_run {f:FuncId} (h:callable P f=true) (us:Array Value) (w:World):(callFunc f us).run P w=.ok (.enter f us) w:=by
  unfold callable at h
  split at h
  · rename_i fn hf
    simp only [Bool.and_eq_true,bne_iff_ne,ne_eq,Option.isSome_iff_ne_none] at h
    simp only [callFunc,Sem.run_bind,run_program,Result.andThen_ok,hf]
    rw [if_neg (by simpa using h.1),if_neg (by simpa using h.2)]
    rfl
  · cases h
theorem vop_sound {own:Bool} {o:Oper} {vo:VOp} (hc:cOp P own o.op=some vo) (hw:RepW w0 G st w) (hr:RelOn vo.reads G A a) {K:V→St→Prop} (h:vop P vo st A K) {next:Act→World→Prop} {Q:Exit→Act→World→Prop}
    (hn':Left P w0 G o a K next):o.wp P a w next Q:=by
  by_cases hp:vo.isPop=true
  · have h':(pop st A vo).1∧K (pop st A vo).2 st:=by cases vo <;> first | exact h | simp [VOp.isPop] at hp
    obtain ⟨u,w',G',h1,h2,h3,h4⟩:=pop_sound hc hp hw hr h'.1
    exact wp_value h1 (hn' _ u st w' G' h'.2 h2 h3 h4)
  have noPop:∀ (v:VOp),vo=v→v.isPop=true→False:=fun v e h=>hp (by rw [e]; exact h)
  have keepL:∀ {v:VOp} {x:X} {o':Operand},vo=v→(∀ t ∈ x.reads,t ∈ v.reads)→cx o'=some x→Rep1 G (x.ev A) (a.eval o'):=fun {v x o'} e hl hx=>cx_rep hx hr (by rw [e]; exact hl)
  cases hop:o.op <;> simp only [hop,cOp] at hc <;> try (cases hc; done)
  case move x=>simp only [Option.map_eq_some_iff] at hc; obtain ⟨_,_,rfl⟩:=hc; exact (hp rfl).elim
  case assign x=>simp only [Option.map_eq_some_iff] at hc; obtain ⟨_,_,rfl⟩:=hc; exact (hp rfl).elim
  case pick c x y=>simp only [Option.pure_def,Option.bind_eq_bind,Option.bind_eq_some_iff,Option.some.injEq] at hc; obtain ⟨_,_,_,_,_,_,rfl⟩:=hc; exact (hp rfl).elim
  case binOp op xt x y yt =>
    split at hc
    · simp only [Option.pure_def,Option.bind_eq_bind,Option.bind_eq_some_iff,Option.some.injEq] at hc; obtain ⟨_,_,_,_,rfl⟩:=hc; exact (hp rfl).elim
    · simp only [Option.pure_def,Option.bind_eq_bind,Option.bind_eq_some_iff,Option.some.injEq] at hc; obtain ⟨_,_,rfl⟩:=hc; exact (hp rfl).elim
    · simp only [Option.pure_def,Option.bind_eq_bind,Option.bind_eq_some_iff,Option.some.injEq] at hc; obtain ⟨_,_,rfl⟩:=hc; exact (hp rfl).elim
    · split at hc
      · simp only [Option.pure_def,Option.bind_eq_bind,Option.bind_eq_some_iff,Option.some.injEq] at hc; obtain ⟨_,_,_,_,rfl⟩:=hc; exact (hp rfl).elim
      · split at hc
        · simp only [Option.pure_def,Option.bind_eq_bind,Option.bind_eq_some_iff,Option.some.injEq] at hc; obtain ⟨_,_,rfl⟩:=hc; exact (hp rfl).elim
        · split at hc
          · simp only [Option.pure_def,Option.bind_eq_bind,Option.bind_eq_some_iff,Option.some.injEq] at hc; obtain ⟨_,_,rfl⟩:=hc; exact (hp rfl).elim
          · split at hc <;> (simp only [Option.pure_def,Option.bind_eq_bind,Option.bind_eq_some_iff,Option.some.injEq] at hc; obtain ⟨_,_,_,_,rfl⟩:=hc; exact (hp rfl).elim)
  case unOp op xt x=>simp only [Option.pure_def,Option.bind_eq_bind,Option.bind_eq_some_iff,Option.some.injEq] at hc; obtain ⟨_,_,rfl⟩:=hc; exact (hp rfl).elim
  case convert sT dT x =>
    split at hc
    · simp only [Option.map_eq_some_iff] at hc
      obtain ⟨_,_,rfl⟩:=hc
      cases own <;> exact (hp rfl).elim
    · split at hc
      · simp only [Option.map_eq_some_iff] at hc; obtain ⟨_,_,rfl⟩:=hc; exact (hp rfl).elim
      · simp only [Option.pure_def,Option.bind_eq_bind,Option.bind_eq_some_iff,Option.some.injEq] at hc; obtain ⟨_,_,_,_,rfl⟩:=hc; exact (hp rfl).elim
  case makeSlice t l c =>
    have hc':cOp P own (.makeSlice t l c)=some vo:=by simp only [cOp]; exact hc
    obtain ⟨elem,e,z,hu,hi,hz,hzl,hsz,hm⟩:=mk_inv' hc'
    rcases hm with ⟨k,x',lx,cxx,hlc,rfl⟩ | ⟨k,x',lx,hlc,rfl⟩
    · simp only [vop] at h
      unfold vmks at h
      split at h
      · rename_i k' n hn
        obtain ⟨k1,k2,k3,k4⟩:=h
        have hev:a.eval l=.int k' n∧a.eval c=.int k' n:=by
          have r1:=lx (A:=A) (a:=a) (G:=G) (hr.mono fun t ht=>by simpa [VOp.reads] using ht)
          have r2:=cxx (A:=A) (a:=a) (G:=G) (hr.mono fun t ht=>by simpa [VOp.reads] using ht)
          rw [hn] at r1 r2
          exact ⟨r1.sc_inv,r2.sc_inv⟩
        obtain ⟨w',hrun,hw'⟩:=mks_sound (P:=P) hw hu hi hz hzl hsz (k:=k') k1 k2 k3
        refine wp_value (w':=w') ?_ (hn' _ _ _ _ G (k4 w.heap.size hw.sz) (.sc _ rfl) (.refl G) hw')
        unfold execOp
        simp only [hop,hev.1,hev.2]
        exact run_v hrun
      · exact h.elim
    · simp only [vop] at h
      unfold vmko at h
      split at h
      · rename_i k' n hn
        obtain ⟨k1,k2,k3,k4⟩:=h
        have r1:=lx (A:=A) (a:=a) (G:=G) (hr.mono fun t ht=>by simpa [VOp.reads] using ht)
        rw [hn] at r1
        rcases k4 with k4 | k4
        · obtain ⟨r,w',G',hrun,j1,j2,j3⟩:=mko_sound (P:=P) hw hu hi hz (k:=k') (k':=.i64) k1 k2 k3
          refine wp_value (w':=w') ?_ (hn' _ _ _ _ G' (k4 w.heap.size hw.sz) j1 j2 j3)
          unfold execOp
          simp only [hop,r1.sc_inv,hlc]
          exact run_v hrun
        · obtain ⟨w',hrun,hw'⟩:=mkb_sound (P:=P) hw hu hi hz hzl hsz (k:=k') (k':=.i64) (Int.le_refl _) k1 k2 k3
          refine wp_value (w':=w') ?_ (hn' _ _ _ _ G (k4 w.heap.size hw.sz) (.sc _ rfl) (.refl G) hw')
          unfold execOp
          simp only [hop,r1.sc_inv,hlc]
          exact run_v hrun
      · exact h.elim
  case load t x=>simp only [Option.pure_def,Option.bind_eq_bind,Option.bind_eq_some_iff,Option.some.injEq] at hc; obtain ⟨_,_,_,_,rfl⟩:=hc; exact (hp rfl).elim
  case nilCheck x=>simp only [Option.map_eq_some_iff] at hc; obtain ⟨_,_,rfl⟩:=hc; exact (hp rfl).elim
  case extract x i=>simp only [Option.map_eq_some_iff] at hc; obtain ⟨_,_,rfl⟩:=hc; exact (hp rfl).elim
  case build t parts=>simp only [Option.pure_def,Option.bind_eq_bind,Option.bind_eq_some_iff,Option.some.injEq] at hc; obtain ⟨_,_,_,_,_,_,rfl⟩:=hc; exact (hp rfl).elim
  case fieldAddr sT x f =>
    split at hc
    · split at hc
      · split at hc
        · split at hc
          · cases hc
          · simp only [Option.map_eq_some_iff] at hc; obtain ⟨_,_,rfl⟩:=hc; exact (hp rfl).elim
        · cases hc
      · cases hc
    · cases hc
  case indexAddr t x i =>
    split at hc
    · split at hc
      · simp only [Option.pure_def,Option.bind_eq_bind,Option.bind_eq_some_iff,Option.some.injEq] at hc; obtain ⟨_,_,_,_,rfl⟩:=hc; exact (hp rfl).elim
      · cases hc
    · split at hc
      · simp only [Option.pure_def,Option.bind_eq_bind,Option.bind_eq_some_iff,Option.some.injEq] at hc; obtain ⟨_,_,_,_,rfl⟩:=hc; exact (hp rfl).elim
      · cases hc
    · cases hc
  case index t x i =>
    split at hc
    · simp only [Option.pure_def,Option.bind_eq_bind,Option.bind_eq_some_iff,Option.some.injEq] at hc; obtain ⟨_,_,_,_,rfl⟩:=hc; exact (hp rfl).elim
    · split at hc
      · split at hc
        · simp only [Option.pure_def,Option.bind_eq_bind,Option.bind_eq_some_iff,Option.some.injEq] at hc; obtain ⟨_,_,_,_,rfl⟩:=hc; exact (hp rfl).elim
        · split at hc
          · simp only [Option.pure_def,Option.bind_eq_bind,Option.bind_eq_some_iff,Option.some.injEq] at hc; obtain ⟨_,_,_,_,rfl⟩:=hc; exact (hp rfl).elim
          · cases hc
      · cases hc
    · cases hc
  case slice t x lo hi mx =>
    split at hc
    · split at hc
      · simp only [Option.pure_def,Option.bind_eq_bind,Option.bind_eq_some_iff,Option.some.injEq] at hc; obtain ⟨_,_,_,_,_,_,rfl⟩:=hc; exact (hp rfl).elim
      · cases hc
    · simp only [Option.pure_def,Option.bind_eq_bind,Option.bind_eq_some_iff,Option.some.injEq] at hc; obtain ⟨_,_,_,_,_,_,rfl⟩:=hc; exact (hp rfl).elim
    · split at hc
      · simp only [Option.pure_def,Option.bind_eq_bind,Option.bind_eq_some_iff,Option.some.injEq] at hc; obtain ⟨_,_,_,_,_,_,rfl⟩:=hc; exact (hp rfl).elim
      · cases hc
    · split at hc
      · simp only [Option.pure_def,Option.bind_eq_bind,Option.bind_eq_some_iff,Option.some.injEq] at hc; obtain ⟨_,_,_,_,_,_,_,_,rfl⟩:=hc; exact (hp rfl).elim
      · cases hc
    · cases hc
  case sliceToArrayPointer arr x =>
    split at hc
    · split at hc
      · split at hc
        · simp only [Option.map_eq_some_iff] at hc; obtain ⟨_,_,rfl⟩:=hc; exact (hp rfl).elim
        · cases hc
      · cases hc
    · cases hc
  case alloc t =>
    simp only [Option.map_eq_some_iff] at hc
    obtain ⟨z,hz,rfl⟩:=hc
    obtain ⟨us,h1,h2⟩:=alc_sound hw hz
    refine wp_value (by unfold execOp; simp only [hop]; exact run_v h1) (hn' _ _ _ _ G (h w.heap.size hw.sz) (.sc _ rfl) (.refl G) h2)
  case box t x =>
    simp only [Option.map_eq_some_iff] at hc
    obtain ⟨x',hx,rfl⟩:=hc
    obtain ⟨h0,h⟩:=h
    obtain ⟨h1,h2⟩:=box_sound (P:=P) hw (cx_rep hx hr (fun t h=>h)) h0 t
    refine wp_value (by unfold execOp; simp only [hop]; exact run_v h1) (hn' _ _ _ _ G (h w.heap.size hw.sz) (.sc _ rfl) (.refl G) h2)
  case store t x y =>
    simp only [Option.pure_def,Option.bind_eq_bind,Option.bind_eq_some_iff,Option.some.injEq] at hc
    obtain ⟨⟨n,size⟩,h0,x',h1,y',h2,rfl⟩:=hc
    have r1:=cx_rep h1 hr (by simp only [VOp.reads,List.mem_append]; exact fun t h=>.inl h)
    have r2:=cx_rep h2 hr (by simp only [VOp.reads,List.mem_append]; exact fun t h=>.inr h)
    simp only [vop] at h
    unfold vstore at h
    split at h
    · rename_i b off hb
      rw [hb] at r1
      split at h
      · rename_i cs hcs
        obtain ⟨k1,k2,k3,kmo,k4⟩:=h
        obtain ⟨w',hrun,hw'⟩:=store_sound hw h0 hcs r2 k1 k2 k3 kmo
        refine wp_skip' (w':=w') ?_ (hn' _ _ _ _ G k4 .und (.refl G) hw')
        unfold execOp
        simp only [hop,r1.sc_inv,Sem.run_bind,hrun,Result.andThen_ok,Sem.run_pure]
      · exact h.elim
    · exact h.elim
  case buildSlice t len parts =>
    split at hc
    · rename_i elem hu
      split at hc
      · rename_i e he
        split at hc
        · rename_i hcond
          simp only [Option.pure_def,Option.bind_eq_bind,Option.bind_eq_some_iff] at hc
          obtain ⟨xs,hxs,z,hz,hc⟩:=hc
          split at hc
          · rename_i hzl
            cases own
            · simp only [Bool.false_eq_true,if_false,Option.some.injEq] at hc
              subst hc
              exact (hp rfl).elim
            · simp only [if_true,Option.some.injEq] at hc
              subst hc
              obtain ⟨hal,h⟩:=h
              obtain ⟨hlen,hget⟩:=mapM_get hxs
              have hpl:parts.toList.length=len:=by have:=congrArg List.length hcond.1; simpa using this
              have ee:(parts.map fun x=>(x.1,a.eval x.2))=((parts.toList.map fun x=>(x.1,a.eval x.2))).toArray:=by rw [← Array.toList_map,Array.toArray_toList]
              have hreps:∀ (i:Nat) (d:V) (q:Nat × Value),(xs.map fun x=>strip (x.ev A))[i]?=some d→(parts.toList.map fun x=>(x.1,a.eval x.2))[i]?=some q→Rep1 G d q.2:=fun i d q hd hq=>by
                simp only [List.getElem?_map,Option.map_eq_some_iff] at hd hq
                obtain ⟨x',hx',rfl⟩:=hd
                obtain ⟨q',hq',rfl⟩:=hq
                refine strip_rep (cx_rep (hget i q' x' hq' hx') hr (fun t ht=>?_))
                simp only [VOp.reads,List.mem_flatMap]
                exact ⟨_,List.mem_of_getElem? hx',ht⟩
              rcases h with h | h
              · obtain ⟨r,w',G',h1,h2,h3,h4⟩:=bslo_sound (P:=P) hw hu he hcond.2.2 hcond.2.1 hz hzl (parts:=parts.toList.map fun x=>(x.1,a.eval x.2)) (by rw [List.map_map]; exact hcond.1) (ds:=xs.map fun x=>strip (x.ev A)) (by simp [hlen,hpl]) hreps hal
                rw [← ee] at h1
                have hk:=h w.heap.size hw.sz
                rw [show xs.length=len by rw [hlen,hpl]] at hk
                exact wp_value (by unfold execOp; simp only [hop]; exact run_v h1) (hn' _ _ _ _ G' hk h2 h3 h4)
              · obtain ⟨w',h1,h2⟩:=bslb_sound (P:=P) hw hu he hcond.2.2 hcond.2.1 hz hzl (parts:=parts.toList.map fun x=>(x.1,a.eval x.2)) (by rw [List.map_map]; exact hcond.1) (ds:=xs.map fun x=>strip (x.ev A)) (by simp [hlen,hpl]) hreps hal
                rw [← ee] at h1
                have hk:=h w.heap.size hw.sz
                rw [show xs.length=len by rw [hlen,hpl]] at hk
                exact wp_value (by unfold execOp; simp only [hop]; exact run_v h1) (hn' _ _ _ _ G hk (.sc _ rfl) (.refl G) h2)
          · cases hc
        · cases hc
      · cases hc
    · cases hc
  case call c =>
    obtain ⟨cal,args,tys⟩:=c
    simp only at hc
    split at hc
    · rename_i f
      split at hc
      · rename_i hcall
        simp only [Option.pure_def,Option.bind_eq_bind,Option.bind_eq_some_iff,Option.some.injEq] at hc
        obtain ⟨xs,hxs,rfl⟩:=hc
        obtain ⟨hlen,hget⟩:=mapM_get hxs
        simp only [vop] at h
        have hcalls:=h w0 G w (args.map a.eval) hw (by simp [hlen]) (fun i d u hd hu=>by
          simp only [List.getElem?_map,Option.map_eq_some_iff] at hd
          obtain ⟨x',hx',rfl⟩:=hd
          simp only [Array.getElem?_map,Option.map_eq_some_iff] at hu
          obtain ⟨o',ho',rfl⟩:=hu
          refine cx_rep (hget i o' x' (by simpa using ho') hx') hr (fun t ht=>?_)
          simp only [VOp.reads,List.mem_flatMap]
          exact ⟨_,List.mem_of_getElem? hx',ht⟩)
        unfold Oper.wp
        have hrun:(execOp a.eval o).run P w=.ok (.enter f (args.map a.eval)) w:=by
          unfold execOp
          simp only [hop,resolve,Act.eval,Deferred.ofValue,Sem.run_bind,Sem.run_pure,Result.andThen_ok,invoke,Array.append_empty,Array.empty_append]
          exact callable_run hcall _ w
        rw [hrun,Oper.upon_enter]
        refine hcalls.mono ?_
        rintro e w' ⟨u,r,st',G',rfl,hq,h2,h3,h4⟩
        exact hn' _ _ _ _ G' (hq h2.ok) h2 h3 h4
      · cases hc
    · rename_i tt
      simp only [Option.pure_def,Option.bind_eq_bind,Option.bind_eq_some_iff,Option.some.injEq] at hc
      obtain ⟨xs,hxs,rfl⟩:=hc
      obtain ⟨hlen,hget⟩:=mapM_get hxs
      simp only [vop] at h
      unfold vcalv at h
      split at h
      · rename_i f first cap hfx
        obtain ⟨hcall,hone,h⟩:=h
        have hfv:a.tmps.getD tt undef=.func (.func f) first cap:=by
          have h0:=hr tt (by simp [VOp.reads,X.reads])
          have h1:A tt=.sc (.func (.func f) first cap):=hfx
          rw [h1] at h0
          exact h0.sc_inv
        have hargs:∀ (i:Nat) (d:V) (u:Value),(xs.map fun x=>x.ev A)[i]?=some d→(args.toList.map a.eval)[i]?=some u→Rep1 G d u:=mapM_reps (G:=G) (A:=A) (a:=a) hxs (fun t ht=>hr t (by simp only [VOp.reads,List.mem_append]; exact .inr ht))
        have hsc:∀ (l:List Value),(∀ v ∈ l,v.oneCell'=true)→∀ (i:Nat) (d:V) (u:Value),(l.map V.sc)[i]?=some d→l[i]?=some u→Rep1 G d u:=fun l hl i d u hd hu=>by
          simp only [List.getElem?_map,hu,Option.map_some,Option.some.injEq] at hd
          subst hd
          exact .sc _ (hl u (List.mem_of_getElem? hu))
        have happ:∀ {l1 l2:List V} {u1 u2:List Value},u1.length=l1.length→(∀ (i:Nat) (d:V) (u:Value),l1[i]?=some d→u1[i]?=some u→Rep1 G d u)→(∀ (i:Nat) (d:V) (u:Value),l2[i]?=some d→u2[i]?=some u→Rep1 G d u)→∀ (i:Nat) (d:V) (u:Value),(l1 ++ l2)[i]?=some d→(u1 ++ u2)[i]?=some u→Rep1 G d u:=fun {l1 l2 u1 u2} hl h1 h2 i d u hd hu=>by
          rw [List.getElem?_append] at hd hu
          rw [hl] at hu
          split at hd
          · rename_i hlt; rw [if_pos hlt] at hu; exact h1 i d u hd hu
          · rename_i hlt; rw [if_neg hlt] at hu; exact h2 _ d u hd hu
        have hus:(first ++ args.map a.eval ++ cap).toList=first.toList ++ args.toList.map a.eval ++ cap.toList:=by simp
        have hcalls:=h w0 G w (first ++ args.map a.eval ++ cap) hw (by simp [hlen]) (fun i d u hd hu=>by
          refine happ (l1:=first.toList.map V.sc ++ xs.map fun x=>x.ev A) (l2:=cap.toList.map V.sc) (u1:=first.toList ++ args.toList.map a.eval) (u2:=cap.toList) (by simp [hlen]) ?_ (hsc _ fun v hv=>hone v (List.mem_append_right _ hv)) i d u hd (by rw [← hus,Array.getElem?_toList]; exact hu)
          exact happ (by simp) (hsc _ fun v hv=>hone v (List.mem_append_left _ hv)) hargs)
        unfold Oper.wp
        have hrun:(execOp a.eval o).run P w=.ok (.enter f (first ++ args.map a.eval ++ cap)) w:=by
          unfold execOp
          simp only [hop,resolve,Act.eval,hfv,Deferred.ofValue,Sem.run_bind,Sem.run_pure,Result.andThen_ok,invoke]
          exact callable_run hcall _ w
        rw [hrun,Oper.upon_enter]
        refine hcalls.mono ?_
        rintro e w' ⟨u,r,st',G',rfl,hq,h2,h3,h4⟩
        exact hn' _ _ _ _ G' (hq h2.ok) h2 h3 h4
      · exact h.elim
    · rename_i tt name
      simp only [Option.pure_def,Option.bind_eq_bind,Option.bind_eq_some_iff,Option.some.injEq] at hc
      obtain ⟨xs,hxs,rfl⟩:=hc
      obtain ⟨hlen,hget⟩:=mapM_get hxs
      simp only [vop] at h
      unfold vinv at h
      split at h
      · rename_i t v hfx
        obtain ⟨f,hm,hcall,hone,h⟩:=h
        have hfv:a.tmps.getD tt undef=.iface t v:=by
          have h0:=hr tt (by simp [VOp.reads,X.reads])
          have h1:A tt=.sc (.iface t v):=hfx
          rw [h1] at h0
          exact h0.sc_inv
        have hargs:∀ (i:Nat) (d:V) (u:Value),(xs.map fun x=>x.ev A)[i]?=some d→(args.toList.map a.eval)[i]?=some u→Rep1 G d u:=mapM_reps (G:=G) (A:=A) (a:=a) hxs (fun t ht=>hr t (by simp only [VOp.reads,List.mem_append]; exact .inr ht))
        have hcalls:=h w0 G w (#[v] ++ args.map a.eval) hw (by simp [hlen]; omega) (fun i d u hd hu=>by
          have hus:(#[v] ++ args.map a.eval)[i]?=(v :: args.toList.map a.eval)[i]?:=by
            rw [← Array.getElem?_toList]; simp
          rw [hus] at hu
          cases i with
          | zero=>simp at hd hu; subst hd; subst hu; exact .sc _ hone
          | succ i=>exact hargs i d u (by simpa using hd) (by simpa using hu))
        unfold Oper.wp
        have hrun:(execOp a.eval o).run P w=.ok (.enter f (#[v] ++ args.map a.eval)) w:=by
          have hme:(method (P.types.size + Made.depth) t v name).run P w=.ok (f,v) w:=method_run hm (P.types.size + 99) v w
          have h0:(#[Value.iface t v] ++ args.map a.eval)[0]?=some (.iface t v):=by rw [← Array.getElem?_toList]; simp
          have h1:(#[Value.iface t v] ++ args.map a.eval).extract 1 (#[Value.iface t v] ++ args.map a.eval).size=args.map a.eval:=by
            apply Array.ext'
            simp
            exact List.take_of_length_le (by simp)
          unfold execOp
          simp only [hop,resolve,Act.eval,hfv,Sem.run_bind,Sem.run_pure,Result.andThen_ok,invoke,h0,h1,callMethod]
          have hpr:(program).run P w=.ok P w:=by simp
          simp only [hpr,Result.andThen_ok,hme]
          exact callable_run hcall _ w
        rw [hrun,Oper.upon_enter]
        refine hcalls.mono ?_
        rintro e w' ⟨u,r,st',G',rfl,hq,h2,h3,h4⟩
        exact hn' _ _ _ _ G' (hq h2.ok) h2 h3 h4
      · exact h.elim
    · split at hc
      · split at hc
        · simp only [Option.map_eq_some_iff] at hc; obtain ⟨_,_,rfl⟩:=hc; exact (hp rfl).elim
        · simp only [Option.map_eq_some_iff] at hc; obtain ⟨_,_,rfl⟩:=hc; exact (hp rfl).elim
        · simp only [Option.map_eq_some_iff] at hc; obtain ⟨_,_,rfl⟩:=hc; exact (hp rfl).elim
        · cases hc
      · cases hc
    · split at hc
      · simp only [Option.pure_def,Option.bind_eq_bind,Option.bind_eq_some_iff,Option.some.injEq] at hc; obtain ⟨_,_,_,_,rfl⟩:=hc; exact (hp rfl).elim
      · cases hc
    · split at hc
      · simp only [Option.pure_def,Option.bind_eq_bind,Option.bind_eq_some_iff,Option.some.injEq] at hc; obtain ⟨_,_,_,_,rfl⟩:=hc; exact (hp rfl).elim
      · cases hc
    · split at hc
      · rename_i x y t t' hx ht
        split at hc
        · rename_i elem hu
          split at hc
          · rename_i e he
            split at hc
            · rename_i z hz
              split at hc
              · rename_i hcond
                obtain ⟨hzs,hsz,hz1⟩:=hcond
                have hx':args=#[x,y]:=by cases args; simp at hx; simp [hx]
                have ht':tys=#[t,t']:=by cases tys; simp at ht; simp [ht]
                subst hx' ht'
                have fin:∀ {r:Value} {w':World},(Builtin.append_ #[t,t'] o.type #[a.eval x,a.eval y]).run P w=.ok r w'→(execOp a.eval o).run P w=.ok (.value r) w':=by
                  intro r w' hrun
                  unfold execOp
                  simp [hop,resolve,invoke,builtin,hrun]
                split at hc
                · rename_i hsrc
                  simp only [Option.pure_def,Option.bind_eq_bind,Option.bind_eq_some_iff,Option.some.injEq] at hc
                  obtain ⟨x',h1,y',h2,rfl⟩:=hc
                  have r1:=cx_rep h1 hr (by simp only [VOp.reads,List.mem_append]; exact fun t h=>.inl h)
                  have r2:=cx_rep h2 hr (by simp only [VOp.reads,List.mem_append]; exact fun t h=>.inr h)
                  have htt:t=t':=by
                    unfold appSrc at hsrc
                    split at hsrc
                    · assumption
                    · split at hsrc
                      · split at hsrc <;> simp at hsrc
                      · split at hsrc <;> simp at hsrc
                      · cases hsrc
                  subst htt
                  simp only [vop] at h
                  obtain ⟨r,w',G',rv,st',hrun,hK,j1,j2,j3⟩:=vapp_sound (P:=P) (ty:=o.type) (v:=a.eval y) hw hu he hz hzs hz1 hsz r1 (fun ys k2 k3 _ _=>by
                    rcases k2 with ⟨tk,k2⟩ | ⟨b,o',c,cs,k2,kb,kf,ke,kmo⟩
                    · rw [k2] at r2; exact r2.src hw hu he hz k3
                    · rw [k2] at r2; rw [r2.sc_inv]; exact box_src hw hu he hz kb kf k3 ke kmo) h
                  exact wp_value (fin hrun) (hn' _ _ _ _ G' hK j1 j2 j3)
                · rename_i k hsrc
                  simp only [Option.pure_def,Option.bind_eq_bind,Option.bind_eq_some_iff,Option.some.injEq] at hc
                  obtain ⟨x',h1,y',h2,rfl⟩:=hc
                  have r1:=cx_rep h1 hr (by simp only [VOp.reads,List.mem_append]; exact fun t h=>.inl h)
                  have r2:=cx_rep h2 hr (by simp only [VOp.reads,List.mem_append]; exact fun t h=>.inr h)
                  simp only [vop] at h
                  obtain ⟨hs,h⟩:=h
                  obtain ⟨r,w',G',rv,st',hrun,hK,j1,j2,j3⟩:=vapp_sound (P:=P) (t2:=t') (ty:=o.type) (v:=a.eval y) hw hu he hz hzs hz1 hsz r1 (fun ys k2 k3 k4 k5=>by
                    unfold appSrc at hsrc
                    split at hsrc
                    · cases hsrc
                    · split at hsrc
                      · rename_i hu2
                        split at hsrc
                        · rename_i he1
                          simp only [Option.some.injEq] at hsrc
                          subst hsrc
                          obtain ⟨s,hy⟩:=srcX_str hs
                          rw [hy] at k2 r2
                          rcases k2 with ⟨tk,k2⟩ | ⟨b,o',c,cs,k2,_⟩
                          · cases k2
                            rw [r2.sc_inv]
                            exact str_src hu hu2 he hz he1 s
                          · cases k2
                        · cases hsrc
                      · rename_i kk hu2
                        split at hsrc
                        · rename_i v hzc
                          simp only [Option.some.injEq] at hsrc
                          subst hsrc
                          obtain ⟨kn,n,hy,h0⟩:=srcX_zero hs
                          rw [hy] at k2 r2
                          rcases k2 with ⟨tk,k2⟩ | ⟨b,o',c,cs,k2,_⟩
                          · cases k2
                            rw [r2.sc_inv]
                            rw [List.length_replicate] at k4 k5
                            have hn:n=(n.toNat:Int):=by omega
                            have hzz:=zeroCells'_sc (G:=G) he hz hzc
                            have:=zero_src (P:=P) (G:=G) (w:=w) (k':=kn) hu hu2 he hz hzs hsz hzz (n:=n.toNat) (by unfold maxLen at k4; omega) (by omega)
                            rw [← hn] at this
                            exact this
                          · cases k2
                        · cases hsrc
                      · cases hsrc) h
                  exact wp_value (fin hrun) (hn' _ _ _ _ G' hK j1 j2 j3)
                · cases hc
              · cases hc
            · cases hc
          · cases hc
        · cases hc
      · cases hc
    · split at hc
      · rename_i x y t t' hx ht
        split at hc
        · rename_i htt
          subst htt
          split at hc
          · rename_i elem hu
            split at hc
            · rename_i e he
              split at hc
              · rename_i hsz
                have hx':args=#[x,y]:=by cases args; simp at hx; simp [hx]
                have ht':tys=#[t,t]:=by cases tys; simp at ht; simp [ht]
                subst hx' ht'
                simp only [Option.pure_def,Option.bind_eq_bind,Option.bind_eq_some_iff,Option.some.injEq] at hc
                obtain ⟨x',h1,y',h2,rfl⟩:=hc
                have r1:=cx_rep h1 hr (by simp only [VOp.reads,List.mem_append]; exact fun t h=>.inl h)
                have r2:=cx_rep h2 hr (by simp only [VOp.reads,List.mem_append]; exact fun t h=>.inr h)
                have fin:∀ {r:Value} {w':World},(Builtin.copy_ #[t,t] o.type #[a.eval x,a.eval y]).run P w=.ok r w'→(execOp a.eval o).run P w=.ok (.value r) w':=by
                  intro r w' hrun
                  unfold execOp
                  simp [hop,resolve,invoke,builtin,hrun]
                simp only [vop] at h
                unfold vcpy at h
                split at h
                · rename_i b o1 n c b2 o2 m c2 hxx hyy
                  rw [hxx] at r1
                  rw [hyy] at r2
                  have e1:=r1.sc_inv
                  have e2:=r2.sc_inv
                  split at h
                  · rename_i cs ds hb hb2
                    obtain ⟨k1,k2,k3,k4,k5⟩:=h
                    obtain ⟨_,_,hF,hO,hrb⟩:=hw.box b2 ds hb2
                    obtain ⟨cur,te,hh,hcl,hc1,hcr⟩:=hrb.row k2
                    have hmn:min m n * e.size≤m * e.size:=Nat.mul_le_mul_right _ (Nat.min_le_left _ _)
                    have hget:∀ (j:Nat) (u:Value),((cur.toList.drop o2).take (min m n * e.size))[j]?=some u→cur[o2 + j]?=some u:=fun j u hj=>by
                      rw [List.getElem?_take] at hj
                      split at hj
                      · rw [List.getElem?_drop] at hj; simpa using hj
                      · cases hj
                    obtain ⟨w',hrun,hw'⟩:=copy_sound (P:=P) (ty:=o.type) (c:=c) (c':=c2) (a:=⟨b2,o2,none⟩) (m:=m) (ds:=(ds.drop o2).take (min m n * e.size)) (vs:=(cur.toList.drop o2).take (min m n * e.size)) hw hu he hb k1
                      ⟨by simp; omega,fun i u hu=>hc1 _ u (hget i u (by simpa using hu)),fun i x u hx hu=>by
                        rw [List.getElem?_take] at hx
                        split at hx
                        · rw [List.getElem?_drop] at hx
                          exact hcr _ x u hx (hget i u (by simpa using hu))
                        · cases hx⟩ (by simp; omega) (fun j u hj=>by
                        have:=hget j u hj
                        rw [addr_add]
                        simp [World.cell?,hh,this]) k3
                    exact wp_value (fin (by rw [e1,e2]; exact hrun)) (hn' _ _ _ _ G k5 (.sc _ rfl) (.refl G) hw')
                  · exact h.elim
                · exact h.elim
              · cases hc
            · cases hc
          · cases hc
        · cases hc
      · cases hc
    · split at hc
      · rename_i x y t tl hx ht
        simp only [Option.pure_def,Option.bind_eq_bind,Option.bind_eq_some_iff,Option.some.injEq] at hc
        obtain ⟨m,hm,x',h1,k',h2,rfl⟩:=hc
        obtain ⟨kt,et,hu,hl,hag⟩:=mapK_inv hm
        have r1:=cx_rep h1 hr (by simp only [VOp.reads,List.mem_append]; exact fun t h=>.inl h)
        have r2:=cx_rep h2 hr (by simp only [VOp.reads,List.mem_append]; exact fun t h=>.inr h)
        have hx':args=#[x,y]:=by cases args; simp at hx; simp [hx]
        subst hx'
        have fin:∀ {r:Value} {w':World},(Builtin.delete_ tys o.type #[a.eval x,a.eval y]).run P w=.ok r w'→(execOp a.eval o).run P w=.ok (.value r) w':=by
          intro r w' hrun
          unfold execOp
          simp [hop,resolve,invoke,builtin,hrun]
        have hty:∀ (u v:Value),Builtin.delete_ tys o.type #[u,v]=Builtin.delete_ #[t,t] o.type #[u,v]:=fun u v=>by
          unfold Builtin.delete_
          have:tys[0]?=some t:=by rw [← Array.getElem?_toList,ht]; rfl
          simp [this]
        simp only [vop] at h
        unfold vmdel at h
        split at h
        · rename_i hxx
          rw [hxx] at r1
          rw [hag] at h
          exact wp_value (fin (by rw [hty,r1.sc_inv]; exact mdel_nil hu hl r2 h.1 w)) (hn' _ _ _ _ G h.2 (.tup _ _ rfl fun i c v hc=>by simp at hc) (.refl G) hw)
        · rename_i b hxx
          rw [hxx] at r1
          split at h
          · rename_i ag' lf' es c hb
            obtain ⟨rfl,rfl,k1,k2⟩:=h
            rw [hag] at hb k1 k2
            obtain ⟨w',hrun,hw'⟩:=mdel_sound (P:=P) (ty:=o.type) (t2:=t) hu hl hw hb r2 k1
            exact wp_value (fin (by rw [hty,r1.sc_inv]; exact hrun)) (hn' _ _ _ _ G k2 (.tup _ _ rfl fun i c v hc=>by simp at hc) (.refl G) hw')
          · exact h.elim
        · exact h.elim
      · cases hc
    · split at hc
      · rename_i x t hx ht
        have hx':args=#[x]:=by cases args; simp at hx; simp [hx]
        have ht':tys=#[t]:=by cases tys; simp at ht; simp [ht]
        subst hx' ht'
        split at hc
        · rename_i elem hu
          split at hc
          · rename_i e z he hz
            split at hc
            · rename_i hzl
              simp only [Option.map_eq_some_iff] at hc
              obtain ⟨x',hx1,rfl⟩:=hc
              have r1:=cx_rep hx1 hr (fun t h=>h)
              have fin:∀ {r:Value} {w':World},(Builtin.clear_ #[t] o.type #[a.eval x]).run P w=.ok r w'→(execOp a.eval o).run P w=.ok (.value r) w':=by
                intro r w' hrun
                unfold execOp
                simp [hop,resolve,invoke,builtin,hrun]
              simp only [vop] at h
              unfold vclr at h
              split at h
              · rename_i own hxx
                rw [hxx] at r1
                obtain ⟨A0,c,hu0,_⟩:=r1.slLen
                refine wp_value (fin (w':=w) (r:=.tuple #[]) ?_) (hn' _ _ _ _ G h (.tup _ _ rfl fun i c v hc=>by simp at hc) (.refl G) hw)
                rw [hu0]
                cases A0 <;> simp [Builtin.clear_,run_underlying hu]
              · rename_i b o' n c hxx
                rw [hxx] at r1
                split at h
                · rename_i cs hb
                  obtain ⟨k1,k2,k3⟩:=h
                  obtain ⟨w',hrun,hw'⟩:=clr_sound (P:=P) (ty:=o.type) (c:=c) hw hu he hz hzl.1 hzl.2 hb k1 k2
                  exact wp_value (fin (by rw [r1.sc_inv]; exact hrun)) (hn' _ _ _ _ G k3 (.tup _ _ rfl fun i c v hc=>by simp at hc) (.refl G) hw')
                · exact h.elim
              · exact h.elim
            · cases hc
          · cases hc
        · rename_i kt et hu
          simp only [Option.map_eq_some_iff] at hc
          obtain ⟨x',hx1,rfl⟩:=hc
          have r1:=cx_rep hx1 hr (fun t h=>h)
          have fin:∀ {r:Value} {w':World},(Builtin.clear_ #[t] o.type #[a.eval x]).run P w=.ok r w'→(execOp a.eval o).run P w=.ok (.value r) w':=by
            intro r w' hrun
            unfold execOp
            simp [hop,resolve,invoke,builtin,hrun]
          simp only [vop] at h
          unfold vclrm at h
          split at h
          · rename_i hxx
            rw [hxx] at r1
            refine wp_value (fin (w':=w) (r:=.tuple #[]) ?_) (hn' _ _ _ _ G h (.tup _ _ rfl fun i c v hc=>by simp at hc) (.refl G) hw)
            rw [r1.sc_inv]
            simp [Builtin.clear_,run_underlying hu]
          · rename_i b hxx
            rw [hxx] at r1
            split at h
            · rename_i ag lf es c hb
              obtain ⟨ms,hh,hm⟩:=hw.map hb
              refine wp_value (fin (w':={ w with heap:=w.heap.setIfInBounds b (.map #[] c) }) (r:=.tuple #[]) ?_) (hn' _ _ _ _ G h (.tup _ _ rfl fun i c v hc=>by simp at hc) (.refl G) (hw.setAt hb _ (.map ag lf [] c #[] ⟨rfl,fun i e m he=>by simp at he⟩)))
              rw [r1.sc_inv]
              simp [Builtin.clear_,run_underlying hu,MapKept.run_getObj_map hh,setObj,Sem.run,hh]
            · exact h.elim
          · exact h.elim
        · cases hc
      · cases hc
    · cases hc
  case lookup t x k ok=>simp only [Option.pure_def,Option.bind_eq_bind,Option.bind_eq_some_iff,Option.some.injEq] at hc; obtain ⟨_,_,_,_,_,_,_,_,rfl⟩:=hc; exact (hp rfl).elim
  case entry x=>simp only [Option.map_eq_some_iff] at hc; obtain ⟨_,_,rfl⟩:=hc; exact (hp rfl).elim
  case field t x f =>
    split at hc
    · split at hc
      · split at hc
        · split at hc
          · simp only [Option.map_eq_some_iff] at hc; obtain ⟨_,_,rfl⟩:=hc; exact (hp rfl).elim
          · split at hc
            · simp only [Option.map_eq_some_iff] at hc; obtain ⟨_,_,rfl⟩:=hc; exact (hp rfl).elim
            · cases hc
        · cases hc
      · cases hc
    · cases hc
  case makeInterface t x =>
    split at hc
    · cases hc
    · simp only [Option.pure_def,Option.bind_eq_bind,Option.bind_eq_some_iff,Option.some.injEq] at hc
      obtain ⟨_,_,rfl⟩:=hc; exact (hp rfl).elim
    · cases hc
  case makeFunc f fs cs=>simp only [Option.pure_def,Option.bind_eq_bind,Option.bind_eq_some_iff,Option.some.injEq] at hc; obtain ⟨_,_,_,_,rfl⟩:=hc; exact (hp rfl).elim
  case makeMap t r =>
    cases r with
    | some r=>simp only at hc; cases hc
    | none =>
    simp only [Option.pure_def,Option.bind_eq_bind,Option.bind_eq_some_iff,Option.some.injEq] at hc
    obtain ⟨m,hm,rfl⟩:=hc
    obtain ⟨h1,h2⟩:=mkm_sound (P:=P) (t:=t) m.1 m.2 hw
    exact wp_value (by unfold execOp; simp only [hop]; exact run_v h1) (hn' _ _ _ _ G (h w.heap.size hw.sz) (.sc _ rfl) (.refl G) h2)
  case mapUpdate t x k v =>
    simp only [Option.pure_def,Option.bind_eq_bind,Option.bind_eq_some_iff,Option.some.injEq] at hc
    obtain ⟨m,hm,x',h1,k',h2,v',h3,rfl⟩:=hc
    obtain ⟨kt,et,hu,hl,hag⟩:=mapK_inv hm
    have r1:=cx_rep h1 hr (by simp only [VOp.reads,List.mem_append]; exact fun t h=>.inl (.inl h))
    have r2:=cx_rep h2 hr (by simp only [VOp.reads,List.mem_append]; exact fun t h=>.inl (.inr h))
    have r3:=cx_rep h3 hr (by simp only [VOp.reads,List.mem_append]; exact fun t h=>.inr h)
    simp only [vop] at h
    unfold vmup at h
    split at h
    · rename_i b hxx
      rw [hxx] at r1
      split at h
      · rename_i ag' lf' es c hb
        obtain ⟨rfl,rfl,k1,k2⟩:=h
        rw [hag] at hb k1 k2
        obtain ⟨w',hrun,hw'⟩:=mup_sound (P:=P) hu hl hw hb r2 r3 k1
        refine wp_skip' (w':=w') ?_ (hn' _ _ _ _ G k2 .und (.refl G) hw')
        unfold execOp
        simp only [hop,r1.sc_inv,Sem.run_bind,hrun,Result.andThen_ok,Sem.run_pure]
      · exact h.elim
    · exact h.elim
  case insert t x k v =>
    simp only [Option.pure_def,Option.bind_eq_bind,Option.bind_eq_some_iff,Option.some.injEq] at hc
    obtain ⟨m,hm,x',h1,k',h2,v',h3,rfl⟩:=hc
    obtain ⟨kt,et,hu,hl,hag⟩:=mapK_inv hm
    have r1:=cx_rep h1 hr (by simp only [VOp.reads,List.mem_append]; exact fun t h=>.inl (.inl h))
    have r2:=cx_rep h2 hr (by simp only [VOp.reads,List.mem_append]; exact fun t h=>.inl (.inr h))
    have r3:=cx_rep h3 hr (by simp only [VOp.reads,List.mem_append]; exact fun t h=>.inr h)
    simp only [vop] at h
    unfold vmup at h
    split at h
    · rename_i b hxx
      rw [hxx] at r1
      split at h
      · rename_i ag' lf' es c hb
        obtain ⟨rfl,rfl,k1,k2⟩:=h
        rw [hag] at hb k1 k2
        obtain ⟨w',hrun,hw'⟩:=mup_sound (P:=P) hu hl hw hb r2 r3 k1
        refine wp_skip' (w':=w') ?_ (hn' _ _ _ _ G k2 .und (.refl G) hw')
        unfold execOp
        simp only [hop,r1.sc_inv,Sem.run_bind,hrun,Result.andThen_ok,Sem.run_pure]
      · exact h.elim
    · exact h.elim
  case mapEntry t x k =>
    simp only [Option.pure_def,Option.bind_eq_bind,Option.bind_eq_some_iff,Option.some.injEq] at hc
    obtain ⟨m,hm,z,hz,x',h1,k',h2,rfl⟩:=hc
    obtain ⟨kt,et,hu,hl,hag⟩:=mapK_inv hm
    have r1:=cx_rep h1 hr (by simp only [VOp.reads,List.mem_append]; exact fun t h=>.inl h)
    have r2:=cx_rep h2 hr (by simp only [VOp.reads,List.mem_append]; exact fun t h=>.inr h)
    simp only [vop] at h
    unfold vment at h
    split at h
    · rename_i b hxx
      rw [hxx] at r1
      split at h
      · rename_i ag' lf' es c hb
        obtain ⟨rfl,rfl,k1,k2⟩:=h
        rw [hag] at hb k1 k2
        obtain ⟨r,w',hrun,hrep,hw'⟩:=ment_sound (P:=P) hu hl (mapZ_inv hu hz) hw hb r2 k1
        refine wp_value (w':=w') ?_ (hn' _ _ _ _ G k2 hrep (.refl G) hw')
        unfold execOp
        simp only [hop,r1.sc_inv]
        exact run_v hrun
      · exact h.elim
    · exact h.elim
  case entryStore t x s v =>
    simp only [Option.pure_def,Option.bind_eq_bind,Option.bind_eq_some_iff,Option.some.injEq] at hc
    obtain ⟨x',h1,s',h2,v',h3,rfl⟩:=hc
    have r1:=cx_rep h1 hr (by simp only [VOp.reads,List.mem_append]; exact fun t h=>.inl (.inl h))
    have r2:=cx_rep h2 hr (by simp only [VOp.reads,List.mem_append]; exact fun t h=>.inl (.inr h))
    have r3:=cx_rep h3 hr (by simp only [VOp.reads,List.mem_append]; exact fun t h=>.inr h)
    simp only [vop] at h
    unfold vest at h
    split at h
    · rename_i b n hxx hss
      rw [hxx] at r1
      rw [hss] at r2
      obtain ⟨k0,h⟩:=h
      split at h
      · rename_i ag lf es c hb
        obtain ⟨k1,k2⟩:=h
        obtain ⟨w',hrun,hw'⟩:=est_sound (P:=P) (t:=t) hw hb r3 k1
        refine wp_skip' (w':=w') ?_ (hn' _ _ _ _ G k2 .und (.refl G) hw')
        rw [Int.toNat_of_nonneg k0] at hrun
        unfold execOp
        simp only [hop,r1.sc_inv,r2.sc_inv,Sem.run_bind,hrun,Result.andThen_ok,Sem.run_pure]
      · exact h.elim
    · exact h.elim
  case range t x =>
    split at hc
    · rename_i kt et hu
      simp only [Option.map_eq_some_iff] at hc
      obtain ⟨x',hx,rfl⟩:=hc
      have r1:=cx_rep hx hr (fun t h=>h)
      simp only [vop] at h
      unfold vrng at h
      split at h
      · rename_i hxx
        rw [hxx] at r1
        obtain ⟨w',hrun,hw'⟩:=rng_nil (P:=P) hu hw
        refine wp_value (w':=w') ?_ (hn' _ _ _ _ G (h w.heap.size hw.sz) (.sc _ rfl) (.refl G) hw')
        unfold execOp
        simp only [hop,r1.sc_inv]
        exact run_v hrun
      · rename_i b hxx
        rw [hxx] at r1
        split at h
        · rename_i ag lf es c hb
          obtain ⟨w',hrun,hw'⟩:=rng_sound (P:=P) hu hw hb
          refine wp_value (w':=w') ?_ (hn' _ _ _ _ G (h w.heap.size hw.sz) (.sc _ rfl) (.refl G) hw')
          unfold execOp
          simp only [hop,r1.sc_inv]
          exact run_v hrun
        · exact h.elim
      · exact h.elim
    · rename_i hu
      simp only [Option.map_eq_some_iff] at hc
      obtain ⟨x',hx,rfl⟩:=hc
      have r1:=cx_rep hx hr (fun t h=>h)
      simp only [vop] at h
      unfold vrngS at h
      split at h
      · rename_i s hxx
        rw [hxx] at r1
        refine wp_value (w':=w.alloc (.stringIter s 0)) ?_ (hn' _ _ _ _ G (h w.heap.size hw.sz) (.sc _ rfl) (.refl G) (hw.newObj _ _ (.siter s 0)))
        unfold execOp
        simp only [hop,r1.sc_inv]
        exact run_v (by simp [Instr.range,run_underlying hu])
      · exact h.elim
    · cases hc
  case next x str =>
    split at hc
    · rename_i hstr
      subst hstr
      simp only [Option.map_eq_some_iff] at hc
      obtain ⟨x',hx,rfl⟩:=hc
      have r1:=cx_rep hx hr (fun t h=>h)
      simp only [vop] at h
      unfold vnxtS at h
      split at h
      · rename_i r hxx
        rw [hxx] at r1
        split at h
        · rename_i s pos hr'
          have hh:=hw.siter hr'
          split at h
          · rename_i hpos
            refine wp_value (w':={ w with heap:=w.heap.setIfInBounds r (.stringIter s (pos + (Utf8.decode s pos).2)) }) (u:=.tuple #[.bool true,.int .i64 pos,.int .i32 (Utf8.decode s pos).1]) ?_ (hn' _ _ _ _ G h ?_ (.refl G) (hw.setAt hr' _ (.siter s _)))
            · unfold execOp
              simp only [hop,r1.sc_inv]
              exact run_v (nxtS_run hh hpos)
            · refine .tup _ _ rfl fun i c v hc hv=>?_
              match i with
              | 0=>simp at hc hv; subst hc; subst hv; exact .sc _ rfl
              | 1=>simp at hc hv; subst hc; subst hv; exact .sc _ rfl
              | 2=>simp at hc hv; subst hc; subst hv; exact .sc _ rfl
              | i + 3=>simp at hc
          · rename_i hpos
            refine wp_value (w':=w) (u:=.tuple #[.bool false]) ?_ (hn' _ _ _ _ G h ?_ (.refl G) hw)
            · unfold execOp
              simp only [hop,r1.sc_inv]
              exact run_v (nxtS_end hh hpos)
            · refine .tup _ _ rfl fun i c v hc hv=>?_
              match i with
              | 0=>simp at hc hv; subst hc; subst hv; exact .sc _ rfl
              | i + 1=>simp at hc
        · exact h.elim
      · exact h.elim
    · rename_i hstr
      have hstr':str=false:=by simpa using hstr
      subst hstr'
      simp only [Option.map_eq_some_iff] at hc
      obtain ⟨x',hx,rfl⟩:=hc
      have r1:=cx_rep hx hr (fun t h=>h)
      have rf:Rep1 G (.tup [.sc (.bool false)]) (.tuple #[.bool false]):=.tup _ _ rfl fun i c v hc hv=>by
        match i with
        | 0=>simp at hc hv; subst hc; subst hv; exact .sc _ rfl
        | i + 1=>simp at hc
      simp only [vop] at h
      unfold vnxt at h
      split at h
      · rename_i r hxx
        rw [hxx] at r1
        split at h
        · rename_i since seen last hr'
          have hrun:=nxt_nil (P:=P) (ty:=o.type) hw hr'
          refine wp_value (w':=w) ?_ (hn' _ _ _ _ G h rf (.refl G) hw)
          unfold execOp
          simp only [hop,r1.sc_inv]
          exact run_v hrun
        · rename_i m since seen last hr'
          split at h
          · rename_i ag lf es c hb
            obtain ⟨k1,k2,k3,k4⟩:=h
            rcases nxt_sound (P:=P) (ty:=o.type) hw hr' hb k1 k2 with ⟨j1,hrun⟩ | ⟨e,he,hns,u,w',hrun,hrep,hw'⟩
            · refine wp_value (w':=w) ?_ (hn' _ _ _ _ G (k3 j1) rf (.refl G) hw)
              unfold execOp
              simp only [hop,r1.sc_inv]
              exact run_v hrun
            · refine wp_value (w':=w') ?_ (hn' _ _ _ _ G (k4 e he hns) hrep (.refl G) hw')
              unfold execOp
              simp only [hop,r1.sc_inv]
              exact run_v hrun
          · exact h.elim
        · exact h.elim
      · exact h.elim
end
end
section
open Go Go.RowKit
structure VO where
  dst:Option Nat
  op:VOp
  g:Option (Nat × Bool)
  obs:List (Option Nat × X × Nat)
def putV (A:Nat→V) (d:Option Nat) (v:V):Nat→V :=
  match d with
  | none=>A
  | some d=>fun t=>if t=d then v else A t
def obsOk (st:St) (A:Nat→V):List (Option Nat × X × Nat)→Prop
  | []=>True
  | (n,x,d) :: rest=>(match A d with | .und=>True | v=>(vload st n (x.ev A)).1∧(vload st n (x.ev A)).2=v)∧obsOk st A rest
def vguard (A:Nat→V) (g:Option (Nat × Bool)) (x y:Prop):Prop :=
  match g with
  | none=>x
  | some (s,want)=>match A s with
    | .sc (.bool b)=>(b=want→x)∧(b ≠ want→y)
    | .und=>y
    | _=>False
def vops (P:Program) (K:(Nat→V)→St→Prop):List VO→(Nat→V)→St→Prop
  | [],A,st=>K A st
  | o :: rest,A,st=>vguard A o.g (vop P o.op st A fun r st'=>obsOk st' A o.obs∧vops P K rest (putV A o.dst r) st') (vops P K rest (putV A o.dst .und) st)
inductive VC where
  | skip
  | reg (ops:List VO)
  | seq (a b:VC)
  | cond (c:X) (a b:VC)
  | blk (id:Nat) (c:VC)
  | loop (c:VC)
  | exit (id:Nat)
  | ret
inductive VEx where
  | normal
  | exit (id:Nat)
  | ret
abbrev VQ:=VEx→(Nat→V)→St→Prop
def VQ.seq (Q:VQ) (K:(Nat→V)→St→Prop):VQ
  | .normal,A,st=>K A st
  | e,A,st=>Q e A st
def VQ.blk (Q:VQ) (id:Nat):VQ
  | .exit i,A,st=>if i=id then Q .normal A st else Q (.exit i) A st
  | e,A,st=>Q e A st
def vwp (P:Program):VC→VQ→(Nat→V)→St→Prop
  | .skip,Q=>Q .normal
  | .reg ops,Q=>vops P (Q .normal) ops
  | .seq a b,Q=>vwp P a (Q.seq (vwp P b Q))
  | .cond c a b,Q=>fun A st=>match c.ev A with
    | .sc (.bool t)=>(t=true→vwp P a Q A st)∧(t=false→vwp P b Q A st)
    | _=>False
  | .blk id c,Q=>vwp P c (Q.blk id)
  | .loop c,Q=>fun A st=>∃ (I:(Nat→V)→St→Prop) (μ:(Nat→V)→St→Nat),I A st∧∀ A st,I A st→vwp P c (Q.seq fun A' st'=>I A' st'∧μ A' st' < μ A st) A st
  | .exit id,Q=>Q (.exit id)
  | .ret,Q=>Q .ret
def usedByAppend (ops:Array Oper) (d:Option Nat):Bool :=
  match d with
  | none=>false
  | some d=>ops.any fun o=>match o.op with
    | .call c=>match c.callee,c.args.toList with
      | .builtin .append,[_,.tmp t]=>t == d
      | _,_=>false
    | .convert _ _ (.tmp t)=>t == d
    | _=>false
def arrSl (P:Program) (ops:Array Oper) (t:Nat):Bool :=
  ops.any fun o=>o.dst == some t && match o.op with
    | .slice ty _ _ _ _=>(match P.underlying ty with | some (.array _ _)=>true | _=>false)
    | _=>false
def below0 (ops:Array Oper) (op:BinOp) (y:Operand):Bool :=
  match op,y,ops.toList.map Oper.op with
  | .rem,.const (.int .i64 10),[.move (.tmp 3),_,_]=>true
  | .quo,.const (.int .i64 10),[.move (.tmp 3),_,_]=>true
  | .rem,.const (.int .i64 10),[.assign (.tmp 3),_,_]=>true
  | .quo,.const (.int .i64 10),[.assign (.tmp 3),_,_]=>true
  | _,_,_=>false
def way (P:Program) (ops:Array Oper) (o:Oper):Bool :=
  match o.op with
  | .convert _ _ (.tmp t)=>!arrSl P ops t
  | .binOp op _ _ y _=>!below0 ops op y
  | _=>!usedByAppend ops o.dst
def cOper (P:Program) (N:Nat) (ops:Array Oper) (o:Oper):Option VO :=
  match cOp P (way P ops o) o.op with
  | none=>none
  | some vo=>if o.dst.all (· < N) then
      match o.guard with
      | none=>some ⟨o.dst,vo,none,[]⟩
      | some (j,want)=>match (ops[j]?).bind (·.dst) with
        | some s=>some ⟨o.dst,vo,some (s,want),[]⟩
        | none=>none
    else none
section
variable {P:Program} {w0:Fr} {G:Gh} {st:St} {w:World} {A:Nat→V} {a:Act} {N:Nat}
theorem Rep1.und_inv {v:Value} (h:Rep1 G .und v):v=undef:=by cases h; rfl
structure RelAll (N:Nat) (G:Gh) (A:Nat→V) (a:Act):Prop where
  size:a.tmps.size=N
  defers:a.defers=[]
  rep:∀ t,Rep1 G (A t) (a.tmps.getD t undef)
theorem RelAll.le {H:Gh} (h:RelAll N G A a) (hle:G.le H):RelAll N H A a:=⟨h.size,h.defers,fun t=>(h.rep t).mono hle⟩
theorem RelAll.on (h:RelAll N G A a) (l:List Nat):RelOn l G A a:=fun t _=>h.rep t
theorem getD_put (a:Act) (d:Nat) (u:Value) (t:Nat):(a.put (some d) u).tmps.getD t undef=if t=d∧d < a.tmps.size then u else a.tmps.getD t undef:=by
  simp only [Act.put,Array.getD_eq_getD_getElem?,Array.getElem?_setIfInBounds]
  by_cases h:d=t
  · subst h
    by_cases h2:d < a.tmps.size
    · simp [h2]
    · simp [h2]
  · rw [if_neg h,if_neg (fun e=>h e.1.symm)]
theorem RelAll.put (h:RelAll N G A a) {d:Option Nat} (hd:d.all (· < N)=true) {r:V} {u:Value} (hr:Rep1 G r u):RelAll N G (putV A d r) (a.put d u):=by
  cases d with
  | none=>exact h
  | some d =>
    have hd':d < N:=by simpa using hd
    refine ⟨by simp [Act.put,h.size],h.defers,fun t=>?_⟩
    rw [getD_put,h.size]
    simp only [putV]
    by_cases ht:t=d
    · rw [if_pos ht,if_pos ⟨ht,hd'⟩]; exact hr
    · rw [if_neg ht,if_neg (fun e=>ht e.1)]; exact h.rep t
theorem cOper_inv {ops:Array Oper} {o:Oper} {v:VO} (h:cOper P N ops o=some v):v.dst=o.dst∧o.dst.all (· < N)=true∧cOp P (way P ops o) o.op=some v.op∧v.obs=[] ∧
    ((o.guard=none∧v.g=none) ∨ ∃ j want s,o.guard=some (j,want)∧(ops[j]?).bind (·.dst)=some s∧v.g=some (s,want)):=by
  unfold cOper at h
  split at h
  · cases h
  · rename_i vo hvo
    split at h
    · rename_i hd
      split at h
      · rename_i hg
        simp only [Option.some.injEq] at h; subst h
        exact ⟨rfl,hd,hvo,rfl,.inl ⟨hg,rfl⟩⟩
      · rename_i j want hg
        split at h
        · rename_i s hs
          simp only [Option.some.injEq] at h; subst h
          exact ⟨rfl,hd,hvo,rfl,.inr ⟨j,want,s,hg,hs,rfl⟩⟩
        · cases h
    · cases h
theorem wanted_true {ops:Array Oper} {o:Oper} {j s:Nat} {want b:Bool} (hg:o.guard=some (j,want)) (hs:(ops[j]?).bind (·.dst)=some s) (hv:a.tmps.getD s undef=.bool b):Region.wanted o (yielded ops a.tmps)=(b == want):=by
  have h2:a.tmps[s]?=some (.bool b):=by
    rw [Array.getD_eq_getD_getElem?] at hv
    cases h3:a.tmps[s]? with
    | none=>rw [h3] at hv; simp [undef] at hv
    | some v=>rw [h3] at hv; simp at hv; rw [hv]
  simp only [Region.wanted,hg,yielded,hs,Option.bind_some,h2]
  cases b <;> cases want <;> rfl
theorem wanted_und {ops:Array Oper} {o:Oper} {j s:Nat} {want:Bool} (hg:o.guard=some (j,want)) (hs:(ops[j]?).bind (·.dst)=some s) (hv:a.tmps.getD s undef=undef):Region.wanted o (yielded ops a.tmps)=false:=by
  simp only [Region.wanted,hg,yielded,hs,Option.bind_some]
  rw [Array.getD_eq_getD_getElem?] at hv
  cases h3:a.tmps[s]? with
  | none=>cases want <;> rfl
  | some v=>rw [h3] at hv; simp at hv; subst hv; cases want <;> rfl
theorem vops_sound {ops:Array Oper} {Q':Exit→Act→World→Prop} {K:(Nat→V)→St→Prop}:∀ (l:List Oper) (vs:List VO),l.mapM (cOper P N ops)=some vs→∀ {G:Gh} {A:Nat→V} {a:Act} {st:St} {w:World},RelAll N G A a→RepW w0 G st w→vops P K vs A st →
    (∀ A' a' st' w' G',K A' st'→G.le G'→RelAll N G' A' a'→RepW w0 G' st' w'→Q' .normal a' w')→wpList P ops Q' l a w
  | [],vs,hc,G,A,a,st,w,hr,hw,h,hk=>by
    simp at hc; subst hc
    exact hk A a st w G h (.refl G) hr hw
  | o :: l,vs,hc,G,A,a,st,w,hr,hw,h,hk=>by
    simp only [List.mapM_cons,Option.pure_def,Option.bind_eq_bind,Option.bind_eq_some_iff,Option.some.injEq] at hc
    obtain ⟨v,hv,vs',hvs,rfl⟩:=hc
    obtain ⟨hd,hdN,hop,hobs,hg⟩:=cOper_inv hv
    have run:vop P v.op st A (fun r st'=>obsOk st' A v.obs∧vops P K vs' (putV A v.dst r) st')→o.wp P a w (wpList P ops Q' l) Q':=fun h =>
      vop_sound hop hw (hr.on _) h fun r u st' w' G' hkk hru hle hw'=>vops_sound l vs' hvs (by rw [hd] at *; exact (hr.le hle).put hdN hru) hw' hkk.2 fun A' a' st2 w2 G2 k1 k2 k3 k4=>hk A' a' st2 w2 G2 k1 (hle.trans k2) k3 k4
    have skip:vops P K vs' (putV A v.dst .und) st→wpList P ops Q' l (a.put o.dst undef) w:=fun h =>
      vops_sound l vs' hvs (by rw [hd] at *; exact hr.put hdN .und) hw h hk
    simp only [vops] at h
    simp only [wpList]
    rcases hg with ⟨hg,hvg⟩ | ⟨j,want,s,hg,hs,hvg⟩
    · rw [hvg] at h
      rw [if_pos (by simp [Region.wanted,hg])]
      exact .inl (run h)
    · rw [hvg] at h
      simp only [vguard] at h
      have hrs:=hr.rep s
      split at h
      · rename_i b hb
        rw [hb] at hrs
        have hw1:=wanted_true hg hs hrs.sc_inv
        by_cases hbw:b=want
        · rw [if_pos (by rw [hw1]; simpa using hbw)]
          exact .inl (run (h.1 hbw))
        · rw [if_neg (by rw [hw1]; simpa using hbw)]
          exact skip (h.2 hbw)
      · rename_i hb
        rw [hb] at hrs
        have hw1:=wanted_und (a:=a) hg hs hrs.und_inv
        rw [if_neg (by rw [hw1]; simp)]
        exact skip h
      · exact h.elim
end
end
section
open Go Go.RowKit
def bf (ops:Array Oper) (i j:Nat):Bool:=((Region.before ops).getD i 0).testBit j
def VOp.isLoad:VOp→Bool
  | .load _ _=>true
  | .b2sB _=>true
  | .mlk _ _ _ _ _ _=>true
  | .mlen _=>true
  | .ent _=>true
  | _=>false
def gslot (v:VO):List Nat:=match v.g with | some (s,_)=>[s] | none=>[]
def VO.looks (v:VO):List Nat:=gslot v ++ v.op.reads
def dstAt (cs:List VO) (i:Nat):Option Nat:=(cs[i]?).bind (·.dst)
def skey (ops:Array Oper) (cs:List VO) (i:Nat):Nat :=
  let k:=((List.range cs.length).filter fun e=>(match cs[e]? with | some v=>!v.op.isPop | none=>false) && bf ops i e).length
  match cs[i]? with
  | some v=>if v.op.isPop then 2 * k else 2 * k + 1
  | none=>0
def canon (ops:Array Oper) (cs:List VO):List Nat :=
  let ks:=(List.range cs.length).map (skey ops cs)
  (List.range (2 * cs.length + 2)).flatMap fun k=>(List.range cs.length).filter fun i=>ks.getD i 0 == k
def VOp.isAlcX:VOp→Bool
  | .alcX _=>true
  | .boxX _=>true
  | _=>false
def VO.toX (bx:Bool) (v:VO):VO:=match v.op,v.g with
  | .alc z,none=>{ v with op:=.alcX z }
  | .box x,none=>if bx then { v with op:=.boxX x } else v
  | _,_=>v
def isX (cs:List VO) (i:Nat):Bool:=match cs[i]? with
  | some v=>v.op.isAlcX
  | none=>false
def pickNext (ops:Array Oper) (cs:List VO) (done:List Nat):Option Nat :=
  let rem:=(List.range cs.length).filter fun i=>!done.contains i
  let ready:=rem.filter fun i=>rem.all fun k=>!bf ops i k
  let ok:=fun j=>rem.all fun i=>i == j || isX cs i || bf ops i j
  match ready.find? fun i=>match cs[i]? with | some v=>v.op.isPop | none=>false with
  | some i=>some i
  | none=>match ready.find? fun i=>!isX cs i && ok i with
    | some i=>some i
    | none=>ready.find? fun i=>isX cs i && ok i
def canonX (ops:Array Oper) (cs:List VO):Nat→List Nat→List Nat
  | 0,done=>done
  | n + 1,done=>match pickNext ops cs done with
    | some i=>canonX ops cs n (done ++ [i])
    | none=>done
def obsItem (v:VO):Option (Option Nat × X × Nat) :=
  match v.op,v.dst with
  | .load n x,some d=>some (n,x,d)
  | _,_=>none
def obsFor (ops:Array Oper) (cs:List VO) (pre:List Nat) (j:Nat):List (Option Nat × X × Nat) :=
  match cs[j]? with
  | some v=>if v.op.isPop || v.op.isAlcX then [] else (pre.filter fun i=>!bf ops j i).filterMap fun i=>(cs[i]?).bind obsItem
  | none=>[]
def withObs (ops:Array Oper) (cs:List VO):List Nat→List Nat→List VO
  | _,[]=>[]
  | pre,j :: rem=>(match cs[j]? with | some v=>[{ v with obs:=obsFor ops cs pre j }] | none=>[]) ++ withObs ops cs (pre ++ [j]) rem
def okFrom (ops:Array Oper) (cs:List VO):List Nat→List Nat→Bool
  | _,[]=>true
  | pre,j :: rem=>(match cs[j]? with
      | some v=>((List.range cs.length).all fun k=>!bf ops j k || pre.contains k) && (v.op.isPop || (rem.all fun i=>bf ops i j || isX cs i)) &&
          (v.op.isPop || v.op.isAlcX || (pre.all fun i=>bf ops j i || (match cs[i]? with
            | some u=>!u.op.isLoad || ((obsItem u).isSome && u.op.reads.all fun t=>(List.range cs.length).all fun k=>dstAt cs k != some t || bf ops i k)
            | none=>false)))
      | none=>false) && okFrom ops cs (pre ++ [j]) rem
def okDraw (ops:Array Oper) (cs:List VO) (ord:List Nat):Bool :=
  (ord.length == cs.length) && ((List.range cs.length).all fun i=>ord.contains i) && (ord.all fun i=>decide (i < cs.length)) && decide ord.Nodup &&
  ((List.range cs.length).all fun i=>match ops[i]? with
    | some o=>(o.after.toList.all fun e=>!Region.binds .any e || decide (e.on < i)) && (List.range cs.length).all fun j=>!bf ops i j || o.after.toList.any fun e=>Region.binds .any e && (e.on == j || bf ops e.on j)
    | none=>false) &&
  ((List.range cs.length).all fun i=>match cs[i]? with
    | some v=>(List.range cs.length).all fun j=>j == i || match dstAt cs j with
      | some s=>(dstAt cs i != some s) && (!v.looks.contains s || bf ops i j || bf ops j i)
      | none=>true
    | none=>false) &&
  ((List.range cs.length).all fun i=>match cs[i]? with
    | some v=>match v.dst with
      | some s=>!v.looks.contains s
      | none=>true
    | none=>false) &&
  ((List.range cs.length).all fun i=>(List.range cs.length).all fun j=>!isX cs i || !isX cs j || !bf ops i j) &&
  okFrom ops cs [] ord
def cDraw (P:Program) (N:Nat) (ops:Array Oper):Option (List VO) :=
  match ops.toList.mapM (cOper P N ops) with
  | some cs=>if cs.all (fun v=>!v.op.isAlcX) then (if okDraw ops cs (canon ops cs) then some (withObs ops cs [] (canon ops cs)) else
      if okDraw ops (cs.map (VO.toX false)) (canonX ops (cs.map (VO.toX false)) cs.length []) then some (withObs ops (cs.map (VO.toX false)) [] (canonX ops (cs.map (VO.toX false)) cs.length [])) else
      if okDraw ops (cs.map (VO.toX true)) (canonX ops (cs.map (VO.toX true)) cs.length []) then some (withObs ops (cs.map (VO.toX true)) [] (canonX ops (cs.map (VO.toX true)) cs.length [])) else none) else none
  | none=>none
def Is (v v0:VO):Prop:=(v=v0∧v.op.isAlcX=false) ∨ (∃ z,v0.op=.alc z∧v0.g=none∧v={ v0 with op:=.alcX z }) ∨ ∃ x,v0.op=.box x∧v0.g=none∧v={ v0 with op:=.boxX x }
theorem Is.x {v v0:VO} (h:Is v v0) (hx:v.op.isAlcX=false):v=v0:=by
  rcases h with h | ⟨z,_,_,h⟩ | ⟨z,_,_,h⟩
  · exact h.1
  · rw [h] at hx; cases hx
  · rw [h] at hx; cases hx
theorem toX_is {v:VO} {bx:Bool} (h:v.op.isAlcX=false):Is (v.toX bx) v:=by
  unfold VO.toX
  split
  · rename_i z h1 h2
    exact .inr (.inl ⟨z,h1,h2,rfl⟩)
  · rename_i x h1 h2
    split
    · exact .inr (.inr ⟨x,h1,h2,rfl⟩)
    · exact .inl ⟨rfl,h⟩
  · exact .inl ⟨rfl,h⟩
theorem X.ev_congr {A B:Nat→V} {x:X} (h:∀ t ∈ x.reads,A t=B t):x.ev A=x.ev B:=by
  cases x with
  | t n=>exact h n (by simp [X.reads])
  | c v=>rfl
theorem evs_congr {A B:Nat→V}:∀ {xs:List X},(∀ t ∈ xs.flatMap X.reads,A t=B t)→∀ x ∈ xs,x.ev A=x.ev B:=fun h x hx=>X.ev_congr fun t ht=>h t (List.mem_flatMap.2 ⟨x,hx,ht⟩)
theorem oev_congr {A B:Nat→V} {x:Option X} (h:∀ t ∈ oreads x,A t=B t):(x.map fun x=>x.ev A)=x.map fun x=>x.ev B:=by
  cases x with
  | none=>rfl
  | some x=>simp only [Option.map_some,Option.some.injEq]; exact X.ev_congr h
theorem pop_congr {st:St} {A B:Nat→V} {o:VOp} (h:∀ t ∈ o.reads,A t=B t):pop st A o=pop st B o:=by
  cases o <;> simp only [VOp.reads,List.mem_append] at h <;> simp only [pop]
  case mv x=>rw [X.ev_congr h]
  case pick c a b=>rw [X.ev_congr (x:=c) fun t ht=>h t (.inl (.inl ht)),X.ev_congr (x:=a) fun t ht=>h t (.inl (.inr ht)),X.ev_congr (x:=b) fun t ht=>h t (.inr ht)]
  case binZ op x y=>rw [X.ev_congr (x:=x) fun t ht=>h t (.inl ht),X.ev_congr (x:=y) fun t ht=>h t (.inr ht)]
  case bin op x y=>rw [X.ev_congr (x:=x) fun t ht=>h t (.inl ht),X.ev_congr (x:=y) fun t ht=>h t (.inr ht)]
  case un op x=>rw [X.ev_congr h]
  case conv k x=>rw [X.ev_congr h]
  case isnil neg x=>rw [X.ev_congr h]
  case pnil neg x=>rw [X.ev_congr h]
  case b2s x=>rw [X.ev_congr h]
  case s2b x=>rw [X.ev_congr h]
  case aidx n x y=>rw [X.ev_congr (x:=x) fun t ht=>h t (.inl ht),X.ev_congr (x:=y) fun t ht=>h t (.inr ht)]
  case b2sB x=>rw [X.ev_congr h]
  case s2a n size x=>rw [X.ev_congr h]
  case slcA n size x lo hi=>rw [X.ev_congr (x:=x) fun t ht=>h t (.inl (.inl ht)),oev_congr (x:=lo) fun t ht=>h t (.inl (.inr ht)),oev_congr (x:=hi) fun t ht=>h t (.inr ht)]
  case sidx x y=>rw [X.ev_congr (x:=x) fun t ht=>h t (.inl ht),X.ev_congr (x:=y) fun t ht=>h t (.inr ht)]
  case binb neg x y=>rw [X.ev_congr (x:=x) fun t ht=>h t (.inl ht),X.ev_congr (x:=y) fun t ht=>h t (.inr ht)]
  case eqs neg l x y=>rw [X.ev_congr (x:=x) fun t ht=>h t (.inl ht),X.ev_congr (x:=y) fun t ht=>h t (.inr ht)]
  case fld off x=>rw [X.ev_congr h]
  case ix size x y=>rw [X.ev_congr (x:=x) fun t ht=>h t (.inl ht),X.ev_congr (x:=y) fun t ht=>h t (.inr ht)]
  case ixa n size x y=>rw [X.ev_congr (x:=x) fun t ht=>h t (.inl ht),X.ev_congr (x:=y) fun t ht=>h t (.inr ht)]
  case load n x=>rw [X.ev_congr h]
  case nilck x=>rw [X.ev_congr h]
  case ext x i=>rw [X.ev_congr h]
  case len x=>rw [X.ev_congr h]
  case slen x=>rw [X.ev_congr h]
  case mn x y=>rw [X.ev_congr (x:=x) fun t ht=>h t (.inl ht),X.ev_congr (x:=y) fun t ht=>h t (.inr ht)]
  case mx x y=>rw [X.ev_congr (x:=x) fun t ht=>h t (.inl ht),X.ev_congr (x:=y) fun t ht=>h t (.inr ht)]
  case bld z ps =>
    have:(ps.map fun p=>(p.1,p.2.1,p.2.2.ev A))=ps.map fun p=>(p.1,p.2.1,p.2.2.ev B):=List.map_congr_left fun p hp=>by
      rw [X.ev_congr (x:=p.2.2) fun t ht=>h t (List.mem_flatMap.2 ⟨p,hp,ht⟩)]
    rw [this]
  case bsl size xs =>
    have:(xs.map fun x=>strip (x.ev A))=xs.map fun x=>strip (x.ev B):=List.map_congr_left fun x hx=>by rw [evs_congr h x hx]
    rw [this]
  case slc size x lo hi=>rw [X.ev_congr (x:=x) fun t ht=>h t (.inl (.inl ht)),oev_congr (x:=lo) fun t ht=>h t (.inl (.inr ht)),oev_congr (x:=hi) fun t ht=>h t (.inr ht)]
  case sslc x lo hi=>rw [X.ev_congr (x:=x) fun t ht=>h t (.inl (.inl ht)),oev_congr (x:=lo) fun t ht=>h t (.inl (.inr ht)),oev_congr (x:=hi) fun t ht=>h t (.inr ht)]
  case mlk ag lf z ok x y=>rw [X.ev_congr (x:=x) fun t ht=>h t (.inl ht),X.ev_congr (x:=y) fun t ht=>h t (.inr ht)]
  case mlen x=>rw [X.ev_congr h]
  case mnil neg x=>rw [X.ev_congr h]
  case inil neg x=>rw [X.ev_congr h]
  case mki t x=>rw [X.ev_congr h]
  case fv off size x=>rw [X.ev_congr h]
  case aidxn n size x y=>rw [X.ev_congr (x:=x) fun t ht=>h t (.inl ht),X.ev_congr (x:=y) fun t ht=>h t (.inr ht)]
  case ent x=>rw [X.ev_congr h]
  case mfn f a b =>
    have e1:(a.map fun x=>x.ev A)=a.map fun x=>x.ev B:=List.map_congr_left fun x hx=>evs_congr (fun t ht=>h t (.inl ht)) x hx
    have e2:(b.map fun x=>x.ev A)=b.map fun x=>x.ev B:=List.map_congr_left fun x hx=>evs_congr (fun t ht=>h t (.inr ht)) x hx
    rw [e1,e2]
  case slc3 size x lo y q=>rw [X.ev_congr (x:=x) fun t ht=>h t (.inl (.inl (.inl ht))),oev_congr (x:=lo) fun t ht=>h t (.inl (.inl (.inr ht))),X.ev_congr (x:=y) fun t ht=>h t (.inl (.inr ht)),X.ev_congr (x:=q) fun t ht=>h t (.inr ht)]
theorem pop_st {st st':St} {A:Nat→V} {o:VOp} (h:o.isLoad=false):pop st A o=pop st' A o:=by
  cases o <;> first | rfl | simp [VOp.isLoad] at h
def Outc (v:VO) (st:St) (ρ:Nat→V) (r:V):Prop :=
  match v.g with
  | none=>(pop st ρ v.op).1∧r=(pop st ρ v.op).2
  | some (s,want)=>match ρ s with
    | .sc (.bool c)=>if c=want then (pop st ρ v.op).1∧r=(pop st ρ v.op).2 else r=.und
    | .und=>r=.und
    | _=>False
theorem Outc.run {v:VO} {st:St} {ρ:Nat→V} (hg:v.g=none) (h:(pop st ρ v.op).1):Outc v st ρ (pop st ρ v.op).2:=by unfold Outc; rw [hg]; exact ⟨h,rfl⟩
theorem Outc.wants {v:VO} {st:St} {ρ:Nat→V} {s:Nat} {want:Bool} (hg:v.g=some (s,want)) (hs:ρ s=.sc (.bool want)) (h:(pop st ρ v.op).1):Outc v st ρ (pop st ρ v.op).2:=by
  unfold Outc; rw [hg]; simp [hs,h]
theorem Outc.passes {v:VO} {st:St} {ρ:Nat→V} {s:Nat} {want c:Bool} (hg:v.g=some (s,want)) (hs:ρ s=.sc (.bool c)) (hc:c ≠ want):Outc v st ρ .und:=by
  unfold Outc; rw [hg]; simp [hs,hc]
theorem Outc.und {v:VO} {st:St} {ρ:Nat→V} {s:Nat} {want:Bool} (hg:v.g=some (s,want)) (hs:ρ s=.und):Outc v st ρ .und:=by
  unfold Outc; rw [hg]; simp [hs]
theorem Outc.cases {v:VO} {st:St} {ρ:Nat→V} {r:V} (h:Outc v st ρ r):((pop st ρ v.op).1∧r=(pop st ρ v.op).2∧(v.g=none ∨ ∃ s want,v.g=some (s,want)∧ρ s=.sc (.bool want))) ∨
    (r=.und∧∃ s want,v.g=some (s,want)∧(ρ s=.und ∨ ∃ c,ρ s=.sc (.bool c)∧c ≠ want)):=by
  unfold Outc at h
  split at h
  · rename_i hg; exact .inl ⟨h.1,h.2,.inl hg⟩
  · rename_i s want hg
    split at h
    · rename_i c hc
      split at h
      · rename_i e; subst e; exact .inl ⟨h.1,h.2,.inr ⟨s,c,hg,hc⟩⟩
      · rename_i e; exact .inr ⟨h,s,want,hg,.inr ⟨c,hc,e⟩⟩
    · rename_i hc; exact .inr ⟨h,s,want,hg,.inl hc⟩
    · exact h.elim
theorem Outc.congr {v:VO} {st:St} {ρ σ:Nat→V} {r:V} (h:∀ t ∈ v.looks,ρ t=σ t) (ho:Outc v st ρ r):Outc v st σ r:=by
  have hp:pop st ρ v.op=pop st σ v.op:=pop_congr fun t ht=>h t (by simp [VO.looks,ht])
  unfold Outc at *
  split at ho
  · rwa [← hp]
  · rename_i s want hg
    rw [← h s (by simp [VO.looks,gslot,hg]),← hp]
    exact ho
section
variable {P:Program} {w0:Fr} {N:Nat} {ops:Array Oper} {cs:List VO} {ord:List Nat} {K:(Nat→V)→St→Prop}
noncomputable def rho (ops:Array Oper) (cs:List VO) (A0 A:Nat→V) (i:Nat) (t:Nat):V :=
  open Classical in if ∃ j,dstAt cs j=some t∧bf ops i j=true then A t else A0 t
structure Draw (P:Program) (N:Nat) (ops:Array Oper) (cs:List VO) (ord:List Nat):Prop where
  len:cs.length=ops.size
  get:∀ (i:Nat) (o:Oper) (v:VO),ops[i]?=some o→cs[i]?=some v→∃ v0,cOper P N ops o=some v0∧Is v v0
  mem:∀ i,i < cs.length→i ∈ ord
  lt:∀ i ∈ ord,i < cs.length
  nodup:ord.Nodup
  back:∀ (i:Nat) (o:Oper),ops[i]?=some o→∀ e ∈ o.after,Region.binds .any e=true→e.on < i
  clos:∀ (i:Nat) (o:Oper),ops[i]?=some o→∀ j,j < cs.length→bf ops i j=true→∃ e ∈ o.after,Region.binds .any e=true∧(e.on=j ∨ bf ops e.on j=true)
  one:∀ i j s,i ≠ j→dstAt cs i=some s→dstAt cs j ≠ some s
  looks:∀ i j s (v:VO),i ≠ j→cs[i]?=some v→dstAt cs j=some s→s ∈ v.looks→bf ops i j=true ∨ bf ops j i=true
  self:∀ i s (v:VO),cs[i]?=some v→dstAt cs i=some s→s ∉ v.looks
  xx:∀ i j,isX cs i=true→isX cs j=true→bf ops i j=false
theorem okDraw_spec (hl:cs.length=ops.size) (hget:∀ (i:Nat) (o:Oper) (v:VO),ops.toList[i]?=some o→cs[i]?=some v→∃ v0,cOper P N ops o=some v0∧Is v v0) (h:okDraw ops cs ord=true):Draw P N ops cs ord∧okFrom ops cs [] ord=true:=by
  unfold okDraw at h
  simp only [Bool.and_eq_true,List.all_eq_true,List.mem_range,decide_eq_true_eq,List.contains_eq_mem] at h
  obtain ⟨⟨⟨⟨⟨⟨⟨⟨h1,h2⟩,h3⟩,h4⟩,h5⟩,h6⟩,h7⟩,h9⟩,h8⟩:=h
  have dlt:∀ {j s},dstAt cs j=some s→j < cs.length:=fun {j s} hd=>by
    unfold dstAt at hd
    rcases Nat.lt_or_ge j cs.length with hlt | hge
    · exact hlt
    · rw [List.getElem?_eq_none hge] at hd; simp at hd
  refine ⟨⟨hl,fun i o v ho hv=>hget i o v (by simpa using ho) hv,h2,h3,h4,fun i o ho e he hb=>?_,fun i o ho j hj hb=>?_,fun i j s hij hi hj=>?_,fun i j s v hij hv hj hs=>?_,fun i s v hv hd hs=>?_,fun i j hi hj=>?_⟩,h8⟩
  · have:=h5 i (by rw [hl]; exact (Array.getElem?_eq_some_iff.1 ho).1)
    rw [ho] at this
    simp only [Bool.and_eq_true,List.all_eq_true,Bool.or_eq_true,Bool.not_eq_true',decide_eq_true_eq] at this
    rcases this.1 e (by simpa using he) with h | h
    · rw [hb] at h; cases h
    · exact h
  · have:=h5 i (by rw [hl]; exact (Array.getElem?_eq_some_iff.1 ho).1)
    rw [ho] at this
    simp only [Bool.and_eq_true,List.all_eq_true,List.mem_range,Bool.or_eq_true,Bool.not_eq_true',List.any_eq_true,beq_iff_eq] at this
    rcases this.2 j hj with h | ⟨e,he,hb2,h⟩
    · rw [hb] at h; cases h
    · exact ⟨e,by simpa using he,hb2,h⟩
  · have hlt:=dlt hi
    have hv:cs[i]?=some cs[i]:=List.getElem?_eq_getElem hlt
    have:=h6 i hlt
    rw [hv] at this
    simp only [List.all_eq_true,List.mem_range,Bool.or_eq_true,beq_iff_eq] at this
    rcases this j (dlt hj) with h | h
    · exact hij h.symm
    · rw [hj] at h
      simp only [Bool.and_eq_true,bne_iff_ne,ne_eq] at h
      exact h.1 hi
  · have:=h6 i (List.getElem?_eq_some_iff.1 hv).1
    rw [hv] at this
    simp only [List.all_eq_true,List.mem_range,Bool.or_eq_true,beq_iff_eq] at this
    rcases this j (dlt hj) with h | h
    · exact absurd h.symm hij
    · rw [hj] at h
      simp only [Bool.and_eq_true,Bool.or_eq_true,Bool.not_eq_true',decide_eq_false_iff_not] at h
      rcases h.2 with (h | h) | h
      · exact absurd hs h
      · exact .inl h
      · exact .inr h
  · have:=h7 i (List.getElem?_eq_some_iff.1 hv).1
    rw [hv] at this
    have hd':v.dst=some s:=by unfold dstAt at hd; rw [hv] at hd; exact hd
    simp only [hd',Bool.not_eq_true',decide_eq_false_iff_not] at this
    exact this hs
  · have lt:∀ {k},isX cs k=true→k < cs.length:=fun {k} h=>by
      unfold isX at h
      rcases Nat.lt_or_ge k cs.length with hlt | hge
      · exact hlt
      · rw [List.getElem?_eq_none hge] at h; cases h
    have:=h9 i (lt hi) j (lt hj)
    simp only [hi,hj,Bool.not_true,Bool.false_or,Bool.not_eq_true'] at this
    exact this
def Fr.add (F:Fr) (XB:Nat→Option Obj):Fr:=⟨F.w,fun b=>match F.x b with | some o=>some o | none=>XB b,F.t⟩
theorem Fr.free_add {F:Fr} {XB:Nat→Option Obj} {b:Nat} (h:(F.add XB).free b):F.free b∧XB b=none:=by
  obtain ⟨h1,h2⟩:=h
  simp only [Fr.add] at h1 h2
  split at h2
  · cases h2
  · rename_i hx; exact ⟨⟨h1,hx⟩,h2⟩
theorem Fr.add_free {F:Fr} {XB:Nat→Option Obj} {b:Nat} (h:F.free b) (hX:XB b=none):(F.add XB).free b:=⟨h.1,by simp only [Fr.add,h.2,hX]⟩
theorem RepW.unframe {w0:Fr} {XB:Nat→Option Obj} {G:Gh} {s:St} {w:World} (h:RepW (w0.add XB) G s w):RepW w0 G s w :=
  ⟨h.F,h.O,fun b cs hb=>⟨(h.box b cs hb).1,(Fr.free_add (h.box b cs hb).2.1).1,(h.box b cs hb).2.2⟩,fun g m hg=>⟨(h.own g m hg).1,(Fr.free_add (h.own g m hg).2.1).1,(h.own g m hg).2.2⟩,h.sz,h.bel,fun b o hx=>h.fr b o (by simp only [Fr.add,hx])⟩
def setX (XB:Nat→Option Obj) (b:Nat) (o:Option Obj):Nat→Option Obj:=fun c=>if c=b then o else XB c
theorem RepW.aside {w0:Fr} {XB:Nat→Option Obj} {G:Gh} {s:St} {w:World} (h:RepW (w0.add XB) G s w) (o:Obj):RepW (w0.add (setX XB w.heap.size (some o))) G s (w.alloc o):=by
  have ha:=h.alloc o
  have hsz:=h.sz
  have hno:∀ b,b ≠ w.heap.size→(w0.add XB).free b→(w0.add (setX XB w.heap.size (some o))).free b:=fun b hb hf=>by
    obtain ⟨h1,h2⟩:=Fr.free_add hf
    exact Fr.add_free h1 (by simp only [setX,if_neg hb]; exact h2)
  refine ⟨ha.F,ha.O,fun b cs hb=>?_,fun g m hg=>?_,ha.sz,ha.bel,fun b x hx=>?_⟩
  · obtain ⟨k1,k2,k3⟩:=ha.box b cs hb
    exact ⟨k1,hno b (by omega) k2,k3⟩
  · obtain ⟨k1,k2,k3⟩:=ha.own g m hg
    exact ⟨k1,hno g (by omega) k2,k3⟩
  · by_cases e:b=w.heap.size
    · subst e
      have hfree:=(Fr.free_add h.newFree).1
      have:x=o:=by
        simp only [Fr.add,hfree.2,setX,if_true] at hx
        exact (Option.some.inj hx).symm
      subst this
      exact ⟨heap_alloc_new _ _,fun i=>h.newF (Nat.le_refl _) i,h.newO (Nat.le_refl _)⟩
    · refine ha.fr b x ?_
      simp only [Fr.add,setX,if_neg e] at hx ⊢
      exact hx
theorem RepW.claim {w0:Fr} {XB:Nat→Option Obj} {G:Gh} {s:St} {w:World} (h:RepW (w0.add XB) G s w) {b:Nat} {us:Array Value} {t:TypeId} {z:List V} (hX:XB b=some (.cells us t (0,0))) (hf:w0.free b) (hr:RepL G z us) :
    RepW (w0.add (setX XB b none)) G (s.put b z) w∧s.box b=none∧s.own b=none:=by
  have hfr:=h.fr b _ (show (w0.add XB).x b=some (.cells us t (0,0)) by simp only [Fr.add,hf.2]; exact hX)
  have hlt:b < w.heap.size:=(Array.getElem?_eq_some_iff.1 hfr.1).1
  have hno:∀ c,(w0.add XB).free c→(w0.add (setX XB b none)).free c:=fun c hc=>by
    obtain ⟨h1,h2⟩:=Fr.free_add hc
    refine Fr.add_free h1 ?_
    simp only [setX]
    split
    · rfl
    · exact h2
  have hsz:=h.sz
  refine ⟨⟨h.F,h.O,fun c cs hc=>?_,fun g m hg=>?_,?_,h.bel,fun c x hx=>?_⟩,?_,?_⟩
  · simp only [St.put] at hc ⊢
    split at hc
    · rename_i e
      subst e
      injection hc with hc; subst hc
      exact ⟨by omega,Fr.add_free hf (by simp [setX]),hfr.2.1,hfr.2.2,by rw [hfr.1]; exact .cells us t _ hr.len hr.one hr.rep⟩
    · obtain ⟨k1,k2,k3⟩:=h.box c cs hc
      exact ⟨by omega,hno c k2,k3⟩
  · obtain ⟨k1,k2,k3⟩:=h.own g m hg
    exact ⟨by simp only [St.put]; omega,hno g k2,k3⟩
  · simp only [St.put]; omega
  · refine h.fr c x ?_
    by_cases e:c=b
    · subst e
      simp only [Fr.add,hf.2,setX,if_true] at hx
      cases hx
    · simp only [Fr.add,setX,if_neg e] at hx ⊢
      exact hx
  · cases hb:s.box b with
    | none=>rfl
    | some cs =>
      have:=(Fr.free_add (h.box b cs hb).2.1).2
      rw [hX] at this; cases this
  · cases hb:s.own b with
    | none=>rfl
    | some m =>
      have:=(Fr.free_add (h.own b m hb).2.1).2
      rw [hX] at this; cases this
theorem cOp_alc {P:Program} {own:Bool} {o:Op} {z:List V} (h:cOp P own o=some (.alc z)):∃ t,o=.alloc t∧zeroCells' P t=some z:=by
  cases o <;> simp only [cOp] at h
  case alloc t =>
    obtain ⟨z',h1,h2⟩:=Option.map_eq_some_iff.1 h
    injection h2 with h2
    exact ⟨t,rfl,by rw [h1,h2]⟩
  case makeMap t r=>cases r <;> simp [Option.bind_eq_some_iff] at h
  all_goals
    exfalso
    repeat' split at h
    all_goals first
      | (cases h; done)
      | (simp [Option.bind_eq_some_iff] at h; done)
theorem cOp_box {P:Program} {own:Bool} {o:Op} {x:X} (h:cOp P own o=some (.box x)):∃ t y,o=.box t y∧cx y=some x:=by
  cases o <;> simp only [cOp] at h
  case box t y =>
    obtain ⟨x',h1,h2⟩:=Option.map_eq_some_iff.1 h
    injection h2 with h2
    exact ⟨t,y,rfl,by rw [h1,h2]⟩
  case makeMap t r=>cases r <;> simp [Option.bind_eq_some_iff] at h
  all_goals
    exfalso
    repeat' split at h
    all_goals first
      | (cases h; done)
      | (simp [Option.bind_eq_some_iff] at h; done)
def Early (G:Gh) (ρ:Nat→V) (us:Array Value):VOp→Prop
  | .alcX z=>RepL G z us
  | .boxX x=>∃ u,Rep1 G (x.ev ρ) u∧us=u.cells
  | _=>False
theorem Early.mono {G H:Gh} {ρ:Nat→V} {us:Array Value} {o:VOp} (h:Early G ρ us o) (hle:G.le H):Early H ρ us o:=by
  cases o <;> try exact h
  · exact RepL.mono hle h
  · obtain ⟨u,h1,h2⟩:=h
    exact ⟨u,h1.mono hle,h2⟩
theorem pop_fresh {st:St} {A:Nat→V} {o:VOp} {b:Nat} {z:List V} (hb:st.box b=none) (h:(pop st A o).1):pop (st.put b z) A o=pop st A o:=by
  cases o <;> try rfl
  case load n x =>
    simp only [pop] at h ⊢
    unfold vload at h ⊢
    split at h
    · rfl
    · rename_i c o hx
      cases hc:st.box c with
      | none=>rw [hc] at h; exact h.elim
      | some cs =>
        have hne:c ≠ b:=fun e=>by subst e; rw [hb] at hc; cases hc
        simp only [St.put,if_neg hne,hc]
    · exact h.elim
  case b2sB x =>
    simp only [pop] at h ⊢
    unfold vb2sB at h ⊢
    split at h
    · rename_i c o n cap hx
      cases hc:st.box c with
      | none=>rw [hc] at h; exact h.elim
      | some cs =>
        have hne:c ≠ b:=fun e=>by subst e; rw [hb] at hc; cases hc
        simp only [St.put,if_neg hne,hc]
    · exact h.elim
  case mlk ag lf zz ok x k =>
    simp only [pop] at h ⊢
    unfold vmlk at h ⊢
    split at h
    · rfl
    · rename_i c hx
      cases hc:st.box c with
      | none=>rw [hc] at h; exact h.elim
      | some cs =>
        have hne:c ≠ b:=fun e=>by subst e; rw [hb] at hc; cases hc
        simp only [St.put,if_neg hne,hc]
    · exact h.elim
  case mlen x =>
    simp only [pop] at h ⊢
    unfold vmlen at h ⊢
    split at h
    · rfl
    · rename_i c hx
      cases hc:st.box c with
      | none=>rw [hc] at h; exact h.elim
      | some cs =>
        have hne:c ≠ b:=fun e=>by subst e; rw [hb] at hc; cases hc
        simp only [St.put,if_neg hne,hc]
    · exact h.elim
  case ent x =>
    simp only [pop] at h ⊢
    unfold vent at h ⊢
    split at h
    · rename_i c hx
      cases hc:st.box c with
      | none=>rw [hc] at h; exact h.elim
      | some cs =>
        have hne:c ≠ b:=fun e=>by subst e; rw [hb] at hc; cases hc
        rw [hc] at h
        simp only [St.put,if_neg hne,hc]
        split at h
        · rename_i m since seen last e
          cases e
          cases hm:st.box m with
          | none=>rw [hm] at h; exact h.elim
          | some ds =>
            have hne':m ≠ b:=fun e=>by subst e; rw [hb] at hm; cases hm
            simp only [if_neg hne']
        · exact h.elim
    · exact h.elim
def Done (listed:Array Bool) (i:Nat):Prop:=listed.getD i false=true
structure Inv (P:Program) (w0:Fr) (N:Nat) (ops:Array Oper) (cs:List VO) (ord:List Nat) (K:(Nat→V)→St→Prop) (A0:Nat→V) (ex:Nat→Option Nat) (XB:Nat→Option Obj) (G:Gh) (A:Nat→V) (st:St) (a:Act) (w:World) (listed:Array Bool) (pre rem:List Nat):Prop where
  w:RepW (w0.add XB) G st w
  size:a.tmps.size=N
  defers:a.defers=[]
  split:pre ++ rem=ord
  lsize:listed.size=cs.length
  donePre:∀ i,Done listed i→i ∈ pre ∨ ∃ b,ex i=some b
  closed:∀ (j:Nat) (o:Oper),ops[j]?=some o→Done listed j→∀ e ∈ o.after,Region.binds .any e=true→Done listed e.on
  slotDone:∀ s,(∀ i,dstAt cs i=some s→Done listed i∧ex i=none)→Rep1 G (A s) (a.tmps.getD s undef)
  slotNot:∀ s,(∀ i,dstAt cs i=some s→¬ Done listed i)→Rep1 G (A0 s) (a.tmps.getD s undef)
  untouched:∀ s,(∀ i ∈ pre,dstAt cs i ≠ some s)→A s=A0 s
  pend:∀ i ∈ pre,¬ Done listed i→∀ v,cs[i]?=some v→v.op.isPop=true∧∃ r,Outc v st (rho ops cs A0 A i) r∧∀ d,v.dst=some d→A d=r
  ok:okFrom ops cs pre rem=true
  rest:vops P K (withObs ops cs pre rem) A st
  before:∀ (i j:Nat),i ∈ pre→bf ops i j=true→j < cs.length→∃ l1 l2,pre=l1 ++ i :: l2∧j ∈ l1
  early:∀ i b,ex i=some b→i ∈ rem∧Done listed i∧w0.free b∧∃ v us t,cs[i]?=some v∧v.op.isAlcX=true∧v.g=none∧XB b=some (.cells us t (0,0))∧Early G (rho ops cs A0 A i) us v.op∧∀ d,v.dst=some d→a.tmps.getD d undef=.pointer (some ⟨b,0,none⟩)
  einj:∀ i j b,ex i=some b→ex j=some b→i=j
theorem okFrom_cons {pre rem:List Nat} {j:Nat} (h:okFrom ops cs pre (j :: rem)=true):∃ v,cs[j]?=some v∧(∀ k,k < cs.length→bf ops j k=true→k ∈ pre)∧(v.op.isPop=false→∀ i ∈ rem,bf ops i j=true ∨ isX cs i=true) ∧
    (v.op.isPop=false→v.op.isAlcX=false→∀ i ∈ pre,bf ops j i=false→∀ u,cs[i]?=some u→u.op.isLoad=true→(∃ p,obsItem u=some p)∧∀ t ∈ u.op.reads,∀ k,dstAt cs k=some t→k < cs.length→bf ops i k=true)∧okFrom ops cs (pre ++ [j]) rem=true:=by
  simp only [okFrom,Bool.and_eq_true] at h
  obtain ⟨h1,h2⟩:=h
  cases hv:cs[j]? with
  | none=>rw [hv] at h1; cases h1
  | some v =>
    rw [hv] at h1
    simp only [Bool.and_eq_true,List.all_eq_true,List.mem_range,Bool.or_eq_true,Bool.not_eq_true',List.contains_eq_mem,decide_eq_true_eq] at h1
    obtain ⟨⟨k1,k2⟩,k3⟩:=h1
    refine ⟨v,rfl,fun k hk hb=>(k1 k hk).resolve_left (by rw [hb]; simp),fun hp i hi=>k2.resolve_left (by rw [hp]; simp) i hi,fun hp hx i hi hb u hu hl=>?_,h2⟩
    have:=(k3.resolve_left (by rw [hp,hx]; simp) i hi).resolve_left (by rw [hb]; simp)
    rw [hu] at this
    simp only [Bool.and_eq_true,List.all_eq_true,List.mem_range,Bool.or_eq_true,Bool.not_eq_true',bne_iff_ne,ne_eq] at this
    have h3:=this.resolve_left (by rw [hl]; simp)
    exact ⟨Option.isSome_iff_exists.1 h3.1,fun t ht k hd hk=>(h3.2 t ht k hk).resolve_left (fun e=>e hd)⟩
theorem dst_lt {j s:Nat} (hd:dstAt cs j=some s):j < cs.length:=by
  unfold dstAt at hd
  rcases Nat.lt_or_ge j cs.length with hlt | hge
  · exact hlt
  · rw [List.getElem?_eq_none hge] at hd; simp at hd
theorem dst_of {j:Nat} {v:VO} (hv:cs[j]?=some v):dstAt cs j=v.dst:=by simp [dstAt,hv]
section
variable {A0:Nat→V} {ex:Nat→Option Nat} {XB:Nat→Option Obj} {G:Gh} {A:Nat→V} {st:St} {a:Act} {w:World} {listed:Array Bool} {pre rem:List Nat}
theorem Inv.disj (D:Draw P N ops cs ord) (I:Inv P w0 N ops cs ord K A0 ex XB G A st a w listed pre rem) {i:Nat} (h1:i ∈ pre) (h2:i ∈ rem):False:=by
  have:=D.nodup
  rw [← I.split,List.nodup_append] at this
  exact this.2.2 i h1 i h2 rfl
theorem Inv.done_lt (I:Inv P w0 N ops cs ord K A0 ex XB G A st a w listed pre rem) (D:Draw P N ops cs ord) {i:Nat} (h:Done listed i):i < cs.length :=
  D.lt i (by
    rw [← I.split]
    rcases I.donePre i h with h | ⟨b,h⟩
    · exact List.mem_append_left _ h
    · exact List.mem_append_right _ (I.early i b h).1)
theorem Inv.exPre (D:Draw P N ops cs ord) (I:Inv P w0 N ops cs ord K A0 ex XB G A st a w listed pre rem) {i:Nat} (h:i ∈ pre):ex i=none:=by
  cases he:ex i with
  | none=>rfl
  | some b=>exact (I.disj D h (I.early i b he).1).elim
theorem Inv.preOf (I:Inv P w0 N ops cs ord K A0 ex XB G A st a w listed pre rem) {i:Nat} (h:Done listed i) {v:VO} (hv:cs[i]?=some v) (hx:v.op.isAlcX=false):i ∈ pre:=by
  rcases I.donePre i h with h | ⟨b,h⟩
  · exact h
  · obtain ⟨_,_,_,v',us,t,k1,k2,_⟩:=I.early i b h
    rw [hv] at k1; cases k1
    rw [k2] at hx; cases hx
theorem Inv.waits (D:Draw P N ops cs ord) (I:Inv P w0 N ops cs ord K A0 ex XB G A st a w listed pre rem):∀ (i:Nat) (o:Oper),ops[i]?=some o→(∀ e ∈ o.after,Region.binds .any e=true→Done listed e.on)→∀ j,j < cs.length→bf ops i j=true→Done listed j:=by
  intro i
  induction i using Nat.strongRecOn with
  | _ i ih =>
    intro o ho hall j hj hb
    obtain ⟨e,he,hbe,h⟩:=D.clos i o ho j hj hb
    rcases h with h | h
    · rw [← h]; exact hall e he hbe
    · have hlt:=D.back i o ho e he hbe
      have hd:=hall e he hbe
      have hel:=I.done_lt D hd
      have hoe:ops[e.on]?=some (ops[e.on]'(by rw [← D.len]; exact hel)):=Array.getElem?_eq_getElem _
      exact ih e.on hlt _ hoe (fun e' he' hb'=>I.closed e.on _ hoe hd e' he' hb') j hj h
theorem isX_of {i:Nat} {v:VO} (hv:cs[i]?=some v):isX cs i=v.op.isAlcX:=by simp [isX,hv]
theorem Inv.depsPre (D:Draw P N ops cs ord) (I:Inv P w0 N ops cs ord K A0 ex XB G A st a w listed pre rem) {i:Nat} {o:Oper} (ho:ops[i]?=some o) (hall:∀ e ∈ o.after,Region.binds .any e=true→Done listed e.on) (hx:isX cs i=true):∀ k,k < cs.length→bf ops i k=true→k ∈ pre:=fun k hk hb=>by
  have hv:cs[k]?=some cs[k]:=List.getElem?_eq_getElem hk
  refine I.preOf (I.waits D i o ho hall k hk hb) hv ?_
  cases h:cs[k].op.isAlcX with
  | false=>rfl
  | true =>
    have:=D.xx i k hx (by rw [isX_of hv,h])
    rw [hb] at this; cases this
theorem Inv.earlyDeps (D:Draw P N ops cs ord) (I:Inv P w0 N ops cs ord K A0 ex XB G A st a w listed pre rem) {i b:Nat} (he:ex i=some b):∀ k,k < cs.length→bf ops i k=true→k ∈ pre:=by
  obtain ⟨_,k2,_,v,_,_,hv,hx,_⟩:=I.early i b he
  have ho:ops[i]?=some (ops[i]'(by rw [← D.len]; exact (List.getElem?_eq_some_iff.1 hv).1)):=Array.getElem?_eq_getElem _
  exact I.depsPre D ho (fun e h1 h2=>I.closed i _ ho k2 e h1 h2) (by rw [isX_of hv,hx])
theorem Inv.next (D:Draw P N ops cs ord) {j:Nat} (I:Inv P w0 N ops cs ord K A0 ex XB G A st a w listed pre (j :: rem)) {v:VO} (hv:cs[j]?=some v):∀ t ∈ v.looks,A t=rho ops cs A0 A j t:=by
  intro t ht
  unfold rho
  split
  · rfl
  · rename_i hno
    refine I.untouched t fun i hi hd=>?_
    have hij:j ≠ i:=fun e=>I.disj D hi (by rw [e]; simp)
    rcases D.looks j i t v hij hv hd ht with h | h
    · exact hno ⟨i,hd,h⟩
    · obtain ⟨l1,l2,e1,e2⟩:=I.before i j hi h (List.getElem?_eq_some_iff.1 hv).1
      exact I.disj D (i:=j) (by rw [e1]; exact List.mem_append_left _ e2) (by simp)
theorem rho_put (D:Draw P N ops cs ord) {i j:Nat} {v:VO} (hv:cs[j]?=some v) (hb:bf ops i j=false) (r:V):rho ops cs A0 (putV A v.dst r) i=rho ops cs A0 A i:=by
  funext t
  unfold rho
  split
  · rename_i h
    obtain ⟨k,hk,hbk⟩:=h
    cases hd:v.dst with
    | none=>rfl
    | some d =>
      simp only [putV]
      rw [if_neg]
      intro e
      subst e
      have hjd:dstAt cs j=some t:=by rw [dst_of hv,hd]
      by_cases hjk:j=k
      · subst hjk; rw [hb] at hbk; cases hbk
      · exact D.one j k t hjk hjd hk
  · rfl
theorem putV_ne {d:Option Nat} {r:V} {s:Nat} (h:d ≠ some s):putV A d r s=A s:=by
  cases d with
  | none=>rfl
  | some d=>simp only [putV]; rw [if_neg (fun e=>h (by rw [e]))]
theorem putV_eq {s:Nat} {r:V}:putV A (some s) r s=r:=by simp [putV]
theorem withObs_cons {pre rem:List Nat} {j:Nat} {v:VO} (hv:cs[j]?=some v):withObs ops cs pre (j :: rem)={ v with obs:=obsFor ops cs pre j } :: withObs ops cs (pre ++ [j]) rem:=by simp [withObs,hv]
theorem before_snoc (I:Inv P w0 N ops cs ord K A0 ex XB G A st a w listed pre rem) {j:Nat} (hb:∀ k,k < cs.length→bf ops j k=true→k ∈ pre) (i k:Nat) (hi:i ∈ pre ++ [j]) (h:bf ops i k=true) (hk:k < cs.length):∃ l1 l2,pre ++ [j]=l1 ++ i :: l2∧k ∈ l1:=by
  rw [List.mem_append] at hi
  rcases hi with hi | hi
  · obtain ⟨l1,l2,e1,e2⟩:=I.before i k hi h hk
    exact ⟨l1,l2 ++ [j],by rw [e1]; simp,e2⟩
  · simp at hi; subst hi
    exact ⟨pre,[],rfl,hb k hk h⟩
theorem Inv.advance (D:Draw P N ops cs ord) {j:Nat} (I:Inv P w0 N ops cs ord K A0 ex XB G A st a w listed pre (j :: rem)) {v:VO} (hv:cs[j]?=some v) (hp:v.op.isPop=true) :
    ∃ A',Inv P w0 N ops cs ord K A0 ex XB G A' st a w listed (pre ++ [j]) rem:=by
  obtain ⟨v',hv',hb,_,_,hok⟩:=okFrom_cons I.ok
  rw [hv] at hv'; cases hv'
  have hrest:=I.rest
  rw [withObs_cons hv] at hrest
  have hobs:obsFor ops cs pre j=[]:=by simp [obsFor,hv,hp]
  have hxx:v.op.isAlcX=false:=by cases hvop:v.op <;> rw [hvop] at hp <;> first | rfl | simp [VOp.isPop] at hp
  rw [hobs] at hrest
  simp only [vops] at hrest
  have hnd:¬ Done listed j:=fun h=>I.disj D (I.preOf h hv hxx) (by simp)
  have hnb:∀ i ∈ pre,bf ops i j=false:=fun i hi=>by
    cases h:bf ops i j with
    | false=>rfl
    | true =>
      obtain ⟨l1,l2,e1,e2⟩:=I.before i j hi h (List.getElem?_eq_some_iff.1 hv).1
      exact (I.disj D (i:=j) (by rw [e1]; exact List.mem_append_left _ e2) (by simp)).elim
  have hbj:bf ops j j=false:=by
    cases h:bf ops j j with
    | false=>rfl
    | true=>exact (I.disj D (hb j (List.getElem?_eq_some_iff.1 hv).1 h) (by simp)).elim
  -- what it leaves
  have hout:∃ r,Outc v st A r∧vops P K (withObs ops cs (pre ++ [j]) rem) (putV A v.dst r) st:=by
    have hrun:∀ {K':V→St→Prop},vop P v.op st A K'→(pop st A v.op).1∧K' (pop st A v.op).2 st:=fun {K'} h=>by
      cases hvop:v.op <;> rw [hvop] at h hp <;> first | exact h | simp [VOp.isPop] at hp
    unfold vguard at hrest
    split at hrest
    · rename_i hg
      obtain ⟨h1,_,h2⟩:=hrun hrest
      exact ⟨_,.run hg h1,h2⟩
    · rename_i s want hg
      split at hrest
      · rename_i c hc
        by_cases hcw:c=want
        · obtain ⟨h1,_,h2⟩:=hrun (hrest.1 hcw)
          exact ⟨_,.wants hg (by rw [hc,hcw]) h1,h2⟩
        · exact ⟨.und,.passes hg hc hcw,hrest.2 hcw⟩
      · rename_i hc
        exact ⟨.und,.und hg hc,hrest⟩
      · exact hrest.elim
  obtain ⟨r,hr,hrest'⟩:=hout
  have hnext:=I.next D hv
  refine ⟨putV A v.dst r,⟨I.w,I.size,I.defers,by rw [List.append_assoc]; exact I.split,I.lsize,fun i h=>(I.donePre i h).imp_left (List.mem_append_left _),I.closed,fun s hs=>?_,I.slotNot,fun s hs=>?_,fun i hi hni u hu=>?_,hok,hrest',before_snoc I hb,fun i b he=>?_,I.einj⟩⟩
  rotate_right
  · obtain ⟨k1,k2,k3,v',us,t,k4,k5,k6,k7,k8,k9⟩:=I.early i b he
    have hbi:bf ops i j=false:=by
      cases h:bf ops i j with
      | false=>rfl
      | true=>exact (I.disj D (I.earlyDeps D he j (List.getElem?_eq_some_iff.1 hv).1 h) (by simp)).elim
    refine ⟨?_,k2,k3,v',us,t,k4,k5,k6,k7,by rw [rho_put D hv hbi]; exact k8,k9⟩
    rcases List.mem_cons.1 k1 with e | e
    · subst e; rw [hv] at k4; cases k4; rw [k5] at hxx; cases hxx
    · exact e
  · rw [putV_ne]
    · exact I.slotDone s hs
    · intro e; exact hnd (hs j (by rw [dst_of hv]; exact e)).1
  · rw [putV_ne]
    · exact I.untouched s fun i hi=>hs i (List.mem_append_left _ hi)
    · intro e; exact hs j (by simp) (by rw [dst_of hv]; exact e)
  · rw [List.mem_append] at hi
    rcases hi with hi | hi
    · obtain ⟨h1,r',h2,h3⟩:=I.pend i hi hni u hu
      refine ⟨h1,r',by rw [rho_put D hv (hnb i hi)]; exact h2,fun d hd=>?_⟩
      rw [putV_ne]
      · exact h3 d hd
      · intro e
        exact D.one i j d (fun e=>by subst e; exact I.disj D hi (by simp)) (by rw [dst_of hu]; exact hd) (by rw [dst_of hv]; exact e)
    · simp at hi; subst hi
      rw [hv] at hu; cases hu
      refine ⟨hp,r,?_,fun d hd=>by rw [hd]; exact putV_eq⟩
      rw [rho_put D hv hbj]
      exact hr.congr hnext
theorem Done.set_ne {i j:Nat} (h:Done (listed.setIfInBounds i true) j) (hne:i ≠ j):Done listed j:=by
  unfold Done at *; rwa [getD_set_ne false hne] at h
theorem Done.set {i j:Nat} (h:Done listed j):Done (listed.setIfInBounds i true) j:=getD_set_true h
theorem Done.set_same {i:Nat} (h:i < listed.size):Done (listed.setIfInBounds i true) i:=by
  unfold Done; simp [h]
theorem Inv.relOn (D:Draw P N ops cs ord) (I:Inv P w0 N ops cs ord K A0 ex XB G A st a w listed pre rem) {i:Nat} {o:Oper} (ho:ops[i]?=some o) {v:VO} (hv:cs[i]?=some v) (hnd:¬ Done listed i) (hall:∀ e ∈ o.after,Region.binds .any e=true→Done listed e.on) (hpre:∀ k,k < cs.length→bf ops i k=true→k ∈ pre) :
    RelOn v.looks G (rho ops cs A0 A i) a:=by
  intro t ht
  have hw:=I.waits D i o ho hall
  unfold rho
  split
  · rename_i h
    obtain ⟨k,hk,hb⟩:=h
    have hd:=hw k (dst_lt hk) hb
    refine I.slotDone t fun k' hk'=>?_
    by_cases e:k'=k
    · subst e; exact ⟨hd,I.exPre D (hpre k' (dst_lt hk) hb)⟩
    · exact absurd hk (D.one k' k t e hk')
  · rename_i hno
    refine I.slotNot t fun k hk hdk=>?_
    have hik:i ≠ k:=fun e=>hnd (by rw [e]; exact hdk)
    rcases D.looks i k t v hik hv hk ht with h | h
    · exact hno ⟨k,hk,h⟩
    · have hok:ops[k]?=some (ops[k]'(by rw [← D.len]; exact dst_lt hk)):=Array.getElem?_eq_getElem _
      exact hnd (I.waits D k _ hok (fun e he hb=>I.closed k _ hok hdk e he hb) i (List.getElem?_eq_some_iff.1 hv).1 h)
theorem Inv.carry (D:Draw P N ops cs ord) (I:Inv P w0 N ops cs ord K A0 ex XB G A st a w listed pre rem) {i:Nat} {o:Oper} (ho:ops[i]?=some o) {v:VO} (hv:cs[i]?=some v) (hnd:¬ Done listed i) (hi:i ∈ pre) (hall:∀ e ∈ o.after,Region.binds .any e=true→Done listed e.on)
    {Kc:Act→World→Prop} {Q':Exit→Act→World→Prop} (hk:∀ G' a' w',Inv P w0 N ops cs ord K A0 ex XB G' A st a' w' (listed.setIfInBounds i true) pre rem→G.le G'→Kc a' w'):wpOp P ops Q' i Kc a w:=by
  have hrel:=I.relOn D ho hv hnd hall fun k hk hb=>by
    obtain ⟨l1,l2,e1,e2⟩:=I.before i k hi hb hk
    rw [e1]; exact List.mem_append_left _ e2
  obtain ⟨hp,r,hout,hval⟩:=I.pend i hi hnd v hv
  have hxx:v.op.isAlcX=false:=by cases hvop:v.op <;> rw [hvop] at hp <;> first | rfl | simp [VOp.isPop] at hp
  obtain ⟨v0,hv0,his⟩:=D.get i o v ho hv
  obtain rfl:=his.x hxx
  obtain ⟨hd,hdN,hop,_,hg⟩:=cOper_inv hv0
  have hlt:i < listed.size:=by rw [I.lsize]; exact (List.getElem?_eq_some_iff.1 hv).1
  have next:∀ (u:Value) (w':World) (G':Gh),Rep1 G' r u→G.le G'→RepW (w0.add XB) G' st w'→Kc (a.put o.dst u) w':=fun u w' G' hru hle hw'=>by
    refine hk G' _ w' ⟨hw',by cases o.dst <;> simp [Act.put,I.size],by cases o.dst <;> exact I.defers,I.split,by simp [I.lsize],fun j hj=>?_,fun j oj hoj hj e he hb=>?_,fun s hs=>?_,fun s hs=>?_,I.untouched,fun j hj hnj u hu=>?_,I.ok,I.rest,I.before,fun j b he=>?_,I.einj⟩ hle
    rotate_right
    · obtain ⟨k1,k2,k3,v',us,t,k4,k5,k6,k7,k8,k9⟩:=I.early j b he
      refine ⟨k1,k2.set,k3,v',us,t,k4,k5,k6,k7,k8.mono hle,fun d hdd=>?_⟩
      rw [← k9 d hdd]
      cases hod:o.dst with
      | none=>rfl
      | some d' =>
        rw [getD_put,if_neg]
        rintro ⟨e,_⟩
        subst e
        exact D.one i j d (fun e=>by subst e; exact I.disj D hi k1) (by rw [dst_of hv,hd,hod]) (by rw [dst_of k4]; exact hdd)
    · by_cases e:i=j
      · subst e; exact .inl hi
      · exact I.donePre j (hj.set_ne e)
    · by_cases e':i=j
      · subst e'
        rw [ho] at hoj; cases hoj
        exact (hall e he hb).set
      · exact (I.closed j oj hoj (hj.set_ne e') e he hb).set
    · cases hdd:o.dst with
      | none =>
        refine (I.slotDone s fun k hk'=>?_).mono hle
        have hne:i ≠ k:=fun e=>by subst e; rw [dst_of hv,hd,hdd] at hk'; cases hk'
        exact ⟨(hs k hk').1.set_ne hne,(hs k hk').2⟩
      | some d =>
        rw [getD_put,I.size]
        by_cases e:s=d
        · subst e
          rw [if_pos ⟨rfl,by rw [hdd] at hdN; simpa using hdN⟩,hval s (by rw [hd,hdd])]
          exact hru
        · rw [if_neg (fun h=>e h.1)]
          refine (I.slotDone s fun k hk'=>?_).mono hle
          have hne:i ≠ k:=fun e'=>by
            subst e'; rw [dst_of hv,hd,hdd] at hk'; injection hk' with h; exact e h.symm
          exact ⟨(hs k hk').1.set_ne hne,(hs k hk').2⟩
    · cases hdd:o.dst with
      | none=>exact (I.slotNot s fun k hk' hdk=>hs k hk' hdk.set).mono hle
      | some d =>
        rw [getD_put]
        rw [if_neg]
        · exact (I.slotNot s fun k hk' hdk=>hs k hk' hdk.set).mono hle
        · rintro ⟨e,_⟩
          subst e
          exact hs i (by rw [dst_of hv,hd,hdd]) (Done.set_same hlt)
    · exact I.pend j hj (fun h=>hnj h.set) u hu
  unfold wpOp
  rw [ho]
  simp only
  rcases hout.cases with ⟨h1,h2,h3⟩ | ⟨h1,s,want,hvg,h3⟩
  · have hwant:Region.wanted o (yielded ops a.tmps)=true:=by
      rcases hg with ⟨hg,_⟩ | ⟨j,want,s,hg,hs,hvg⟩
      · simp [Region.wanted,hg]
      · rcases h3 with h3 | ⟨s',want',h3,h4⟩
        · rw [hvg] at h3; cases h3
        · rw [hvg] at h3; cases h3
          have hrs:=hrel s (by simp [VO.looks,gslot,hvg])
          rw [h4] at hrs
          rw [wanted_true hg hs hrs.sc_inv]; simp
    rw [if_pos hwant]
    obtain ⟨u,w',G',k1,k2,k3,k4⟩:=pop_sound hop hp I.w (hrel.mono fun t ht=>by simp [VO.looks,ht]) h1
    exact .inl (wp_value k1 (next u w' G' (by rw [h2]; exact k2) k3 k4))
  · have hwant:Region.wanted o (yielded ops a.tmps)=false:=by
      rcases hg with ⟨_,hvg'⟩ | ⟨j,want',s',hg,hs,hvg'⟩
      · rw [hvg'] at hvg; cases hvg
      · rw [hvg'] at hvg; cases hvg
        have hrs:=hrel s (by simp [VO.looks,gslot,hvg'])
        rcases h3 with h3 | ⟨c,h3,h4⟩
        · rw [h3] at hrs
          exact wanted_und hg hs hrs.und_inv
        · rw [h3] at hrs
          rw [wanted_true hg hs hrs.sc_inv]; simpa using h4
    rw [if_neg (by rw [hwant]; simp)]
    exact next undef w G (by rw [h1]; exact .und) (.refl G) I.w
theorem takeV_not_und {cs:List V} {o:Nat} {n:Option Nat} (h:(takeV cs o n).1):(takeV cs o n).2 ≠ .und:=by
  cases n with
  | some n=>simp [takeV]
  | none =>
    simp only [takeV] at h ⊢
    split at h
    · intro e; simp only at h e; rw [e] at h; simp [V.cells] at h
    · exact h.elim
theorem vload_not_und {st:St} {n:Option Nat} {x:V} (h:(vload st n x).1):(vload st n x).2 ≠ .und:=by
  unfold vload at h ⊢
  split at h
  · exact takeV_not_und h
  · split at h
    · obtain ⟨_,h,e⟩:=takeB_spec h
      rw [e]
      exact takeV_not_und h
    · exact h.elim
  · exact h.elim
theorem obsOk_get {st':St} {A:Nat→V}:∀ {l:List (Option Nat × X × Nat)} (_:obsOk st' A l) {n:Option Nat} {x:X} {d:Nat},(n,x,d) ∈ l→A d=.und ∨ ((vload st' n (x.ev A)).1∧(vload st' n (x.ev A)).2=A d)
  | [],_,n,x,d,hm=>by cases hm
  | p :: l,h,n,x,d,hm=>by
    simp only [obsOk] at h
    rcases List.mem_cons.1 hm with e | hm
    · subst e
      have h1:=h.1
      simp only at h1
      split at h1
      · rename_i e; exact .inl e
      · exact .inr h1
    · exact obsOk_get h.2 hm
theorem Inv.acts (D:Draw P N ops cs ord) {i:Nat} (I:Inv P w0 N ops cs ord K A0 ex XB G A st a w listed pre (i :: rem)) {o:Oper} (ho:ops[i]?=some o) {v:VO} (hv:cs[i]?=some v) (hp:v.op.isPop=false) (hxx:v.op.isAlcX=false) (hall:∀ e ∈ o.after,Region.binds .any e=true→Done listed e.on)
    {Kc:Act→World→Prop} {Q':Exit→Act→World→Prop} (hk:∀ G' A' st' a' w',Inv P w0 N ops cs ord K A0 ex XB G' A' st' a' w' (listed.setIfInBounds i true) (pre ++ [i]) rem→G.le G'→Kc a' w'):wpOp P ops Q' i Kc a w:=by
  obtain ⟨v',hv',hb,_,hload,hok⟩:=okFrom_cons I.ok
  rw [hv] at hv'; cases hv'
  have hnd:¬ Done listed i:=fun h=>I.disj D (I.preOf h hv hxx) (by simp)
  have hlt:i < listed.size:=by rw [I.lsize]; exact (List.getElem?_eq_some_iff.1 hv).1
  have hnext:=I.next D hv
  have hrel:RelOn v.looks G A a:=fun t ht=>by rw [hnext t ht]; exact I.relOn D ho hv hnd hall hb t ht
  obtain ⟨v0,hv0,his⟩:=D.get i o v ho hv
  obtain rfl:=his.x hxx
  obtain ⟨hd,hdN,hop,_,hg⟩:=cOper_inv hv0
  have hrest:=I.rest
  rw [withObs_cons hv] at hrest
  simp only [vops] at hrest
  have hnb:∀ j ∈ pre,bf ops j i=false:=fun j hj=>by
    cases h:bf ops j i with
    | false=>rfl
    | true =>
      obtain ⟨l1,l2,e1,e2⟩:=I.before j i hj h (List.getElem?_eq_some_iff.1 hv).1
      exact (I.disj D (i:=i) (by rw [e1]; exact List.mem_append_left _ e2) (by simp)).elim
  have next:∀ (r:V) (u:Value) (st':St) (w':World) (G':Gh),vops P K (withObs ops cs (pre ++ [i]) rem) (putV A v.dst r) st'→(st'=st ∨ obsOk st' A (obsFor ops cs pre i))→Rep1 G' r u→G.le G'→RepW (w0.add XB) G' st' w'→Kc (a.put o.dst u) w':=fun r u st' w' G' hvops hobs hru hle hw'=>by
    refine hk G' (putV A v.dst r) st' _ w' ⟨hw',by cases o.dst <;> simp [Act.put,I.size],by cases o.dst <;> exact I.defers,by rw [List.append_assoc]; exact I.split,by simp [I.lsize],fun j hj=>?_,fun j oj hoj hj e he hb=>?_,fun s hs=>?_,fun s hs=>?_,fun s hs=>?_,fun j hj hnj y hy=>?_,hok,hvops,before_snoc I hb,fun j b he=>?_,I.einj⟩ hle
    rotate_right
    · obtain ⟨k1,k2,k3,v',us,t,k4,k5,k6,k7,k8,k9⟩:=I.early j b he
      have hji:i ≠ j:=fun e=>by subst e; rw [hv] at k4; cases k4; rw [k5] at hxx; cases hxx
      have hbi:bf ops j i=false:=by
        cases h:bf ops j i with
        | false=>rfl
        | true=>exact (I.disj D (I.earlyDeps D he i (List.getElem?_eq_some_iff.1 hv).1 h) (by simp)).elim
      refine ⟨?_,k2.set,k3,v',us,t,k4,k5,k6,k7,by rw [rho_put D hv hbi]; exact k8.mono hle,fun d hdd=>?_⟩
      · rcases List.mem_cons.1 k1 with e | e
        · exact absurd e.symm hji
        · exact e
      rw [← k9 d hdd]
      cases hod:o.dst with
      | none=>rfl
      | some d' =>
        rw [getD_put,if_neg]
        rintro ⟨e,_⟩
        subst e
        exact D.one i j d hji (by rw [dst_of hv,hd,hod]) (by rw [dst_of k4]; exact hdd)
    · by_cases e:i=j
      · subst e; simp
      · exact (I.donePre j (hj.set_ne e)).imp_left (List.mem_append_left _)
    · by_cases e':i=j
      · subst e'
        rw [ho] at hoj; cases hoj
        exact (hall e he hb).set
      · exact (I.closed j oj hoj (hj.set_ne e') e he hb).set
    · rw [hd]
      cases hdd:o.dst with
      | none =>
        refine (I.slotDone s fun k hk'=>?_).mono hle
        have hne:i ≠ k:=fun e=>by subst e; rw [dst_of hv,hd,hdd] at hk'; cases hk'
        exact ⟨(hs k hk').1.set_ne hne,(hs k hk').2⟩
      | some d =>
        rw [getD_put,I.size]
        simp only [putV]
        by_cases e:s=d
        · subst e
          rw [if_pos rfl,if_pos ⟨rfl,by rw [hdd] at hdN; simpa using hdN⟩]
          exact hru
        · rw [if_neg e,if_neg (fun h=>e h.1)]
          refine (I.slotDone s fun k hk'=>?_).mono hle
          have hne:i ≠ k:=fun e'=>by
            subst e'; rw [dst_of hv,hd,hdd] at hk'; injection hk' with h; exact e h.symm
          exact ⟨(hs k hk').1.set_ne hne,(hs k hk').2⟩
    · cases hdd:o.dst with
      | none=>exact (I.slotNot s fun k hk' hdk=>hs k hk' hdk.set).mono hle
      | some d =>
        rw [getD_put]
        rw [if_neg]
        · exact (I.slotNot s fun k hk' hdk=>hs k hk' hdk.set).mono hle
        · rintro ⟨e,_⟩
          subst e
          exact hs i (by rw [dst_of hv,hd,hdd]) (Done.set_same hlt)
    · rw [putV_ne]
      · exact I.untouched s fun j hj=>hs j (List.mem_append_left _ hj)
      · intro e; exact hs i (by simp) (by rw [dst_of hv]; exact e)
    · rw [List.mem_append] at hj
      rcases hj with hj | hj
      · have hji:j ≠ i:=fun e=>by subst e; exact I.disj D hj (by simp)
        obtain ⟨h1,r',h2,h3⟩:=I.pend j hj (fun h=>hnj h.set) y hy
        refine ⟨h1,r',?_,fun d hd'=>?_⟩
        · rw [rho_put D hv (hnb j hj)]
          rcases hobs with e | hobs
          · rw [e]; exact h2
          · by_cases hl:y.op.isLoad=true
            · have hbij:bf ops i j=false:=by
                cases h:bf ops i j with
                | false=>rfl
                | true=>exact absurd (I.waits D i o ho hall j (List.getElem?_eq_some_iff.1 hy).1 h) (fun h=>hnj h.set)
              obtain ⟨⟨p,hp1⟩,hp2⟩:=hload hp hxx j hj hbij y hy hl
              obtain ⟨n,x,d⟩:=p
              have hyop:y.op=.load n x∧y.dst=some d:=by
                unfold obsItem at hp1
                split at hp1
                · rename_i n' x' d' e1 e2
                  simp only [Option.some.injEq,Prod.mk.injEq] at hp1
                  obtain ⟨rfl,rfl,rfl⟩:=hp1
                  exact ⟨e1,e2⟩
                · cases hp1
              have hmem:(n,x,d) ∈ obsFor ops cs pre i:=by
                simp only [obsFor,hv,hp,hxx,Bool.or_self,Bool.false_eq_true,if_false]
                refine List.mem_filterMap.2 ⟨j,List.mem_filter.2 ⟨hj,by rw [hbij]; rfl⟩,by rw [hy]; exact hp1⟩
              have hev:x.ev (rho ops cs A0 A j)=x.ev A:=X.ev_congr fun t ht=>by
                unfold rho
                split
                · rfl
                · rename_i hno
                  refine (I.untouched t fun k _ hk=>?_).symm
                  exact hno ⟨k,hk,hp2 t (by rw [hyop.1]; exact ht) k hk (dst_lt hk)⟩
              have hAd:=h3 d hyop.2
              rcases h2.cases with ⟨k1,k2,k3⟩ | ⟨k1,s,want,k2,k3⟩
              · have hpop:∀ st,pop st (rho ops cs A0 A j) y.op=vload st n (x.ev A):=fun st=>by rw [hyop.1]; simp only [pop]; rw [hev]
                rw [hpop] at k1 k2
                rcases obsOk_get hobs hmem with h | ⟨o1,o2⟩
                · exfalso
                  rw [hAd] at h
                  rw [h] at k2
                  exact vload_not_und k1 k2.symm
                · rw [hAd] at o2
                  rcases k3 with k3 | ⟨s,want,k3,k4⟩
                  · rw [← o2,← hpop]; exact .run k3 (by rw [hpop]; exact o1)
                  · rw [← o2,← hpop]; exact .wants k3 k4 (by rw [hpop]; exact o1)
              · rw [k1]
                rcases k3 with k3 | ⟨c,k3,k4⟩
                · exact .und k2 k3
                · exact .passes k2 k3 k4
            · have hpop:pop st (rho ops cs A0 A j) y.op=pop st' (rho ops cs A0 A j) y.op:=pop_st (by simpa using hl)
              rcases h2.cases with ⟨k1,k2,k3⟩ | ⟨k1,s,want,k2,k3⟩
              · rw [hpop] at k1 k2
                rw [k2]
                rcases k3 with k3 | ⟨s,want,k3,k4⟩
                · exact .run k3 k1
                · exact .wants k3 k4 k1
              · rw [k1]
                rcases k3 with k3 | ⟨c,k3,k4⟩
                · exact .und k2 k3
                · exact .passes k2 k3 k4
        · rw [putV_ne]
          · exact h3 d hd'
          · intro e
            exact D.one j i d hji (by rw [dst_of hy]; exact hd') (by rw [dst_of hv]; exact e)
      · simp at hj; subst hj
        exact absurd (Done.set_same hlt) hnj
  unfold wpOp
  rw [ho]
  simp only
  have run:vop P v.op st A (fun r st'=>obsOk st' A (obsFor ops cs pre i)∧vops P K (withObs ops cs (pre ++ [i]) rem) (putV A v.dst r) st')→o.wp P a w Kc Q':=fun h =>
    vop_sound hop I.w (hrel.mono fun t ht=>by simp [VO.looks,ht]) h fun r u st' w' G' hkk hru hle hw'=>next r u st' w' G' hkk.2 (.inr hkk.1) hru hle hw'
  rcases hg with ⟨hg,hvg⟩ | ⟨j,want,s,hg,hs,hvg⟩
  · rw [hvg] at hrest
    rw [if_pos (by simp [Region.wanted,hg])]
    exact .inl (run hrest)
  · rw [hvg] at hrest
    simp only [vguard] at hrest
    have hrs:=hrel s (by simp [VO.looks,gslot,hvg])
    split at hrest
    · rename_i b hb'
      rw [hb'] at hrs
      have hw1:=wanted_true hg hs hrs.sc_inv
      by_cases hbw:b=want
      · rw [if_pos (by rw [hw1]; simpa using hbw)]
        exact .inl (run (hrest.1 hbw))
      · rw [if_neg (by rw [hw1]; simpa using hbw)]
        exact next .und undef st w G (hrest.2 hbw) (.inl rfl) .und (.refl G) I.w
    · rename_i hb'
      rw [hb'] at hrs
      rw [if_neg (by rw [wanted_und hg hs hrs.und_inv]; simp)]
      exact next .und undef st w G hrest (.inl rfl) .und (.refl G) I.w
    · exact hrest.elim
theorem Outc.fresh {v:VO} {st:St} {ρ:Nat→V} {r:V} (h:Outc v st ρ r) {b:Nat} {z:List V} (hb:st.box b=none):Outc v (st.put b z) ρ r:=by
  rcases h.cases with ⟨k1,k2,k3⟩ | ⟨k1,s,want,k2,k3⟩
  · have e:=pop_fresh (z:=z) hb k1
    rw [k2,← e]
    rw [← e] at k1
    rcases k3 with k3 | ⟨s,want,k3,k4⟩
    · exact .run k3 k1
    · exact .wants k3 k4 k1
  · rw [k1]
    rcases k3 with k3 | ⟨c,k3,k4⟩
    · exact .und k2 k3
    · exact .passes k2 k3 k4
theorem Inv.ahead (D:Draw P N ops cs ord) {i:Nat} (I:Inv P w0 N ops cs ord K A0 ex XB G A st a w listed pre rem) {o:Oper} (ho:ops[i]?=some o) {v:VO} (hv:cs[i]?=some v) (hxx:v.op.isAlcX=true) (hir:i ∈ rem) (hnd:¬ Done listed i) (hall:∀ e ∈ o.after,Region.binds .any e=true→Done listed e.on)
    {Kc:Act→World→Prop} {Q':Exit→Act→World→Prop} (hk:∀ ex' X' a' w',Inv P w0 N ops cs ord K A0 ex' X' G A st a' w' (listed.setIfInBounds i true) pre rem→Kc a' w'):wpOp P ops Q' i Kc a w:=by
  obtain ⟨v0,hv0,his⟩:=D.get i o v ho hv
  obtain ⟨hd,hdN,hop,_,hg⟩:=cOper_inv hv0
  have hrelx:=I.relOn D ho hv hnd hall (I.depsPre D ho hall (by rw [isX_of hv,hxx]))
  obtain ⟨us,t,hg0,hvg0,hvd,hrun,hea⟩:∃ us t,v0.g=none∧v.g=none∧v.dst=v0.dst∧(execOp a.eval o).run P w=.ok (.value (.pointer (some ⟨w.heap.size,0,none⟩))) (w.alloc (.cells us t))∧Early G (rho ops cs A0 A i) us v.op:=by
    rcases his with ⟨rfl,h⟩ | ⟨z,hz,hg0,rfl⟩ | ⟨x,hz,hg0,rfl⟩
    · rw [hxx] at h; cases h
    · rw [hz] at hop
      obtain ⟨t,hot,hzz⟩:=cOp_alc hop
      obtain ⟨vz,hvz,hrl,_⟩:=zero_sound (G:=G) hzz w
      refine ⟨vz.cells,t,hg0,hg0,rfl,?_,hrl⟩
      unfold execOp
      simp only [hot]
      exact run_v (by simp [Instr.alloc,hvz,newVar,newRow])
    · rw [hz] at hop
      obtain ⟨t,y,hot,hxy⟩:=cOp_box hop
      refine ⟨(a.eval y).cells,t,hg0,hg0,rfl,?_,a.eval y,cx_rep hxy hrelx (fun t ht=>by simp [VO.looks,VOp.reads,ht]),rfl⟩
      unfold execOp
      simp only [hot]
      exact run_v (by simp [Instr.box,newVar,newRow])
  have hgn:o.guard=none:=by
    rcases hg with ⟨hg,_⟩ | ⟨j,want,s,_,_,hvg⟩
    · exact hg
    · rw [hg0] at hvg; cases hvg
  have hlt:i < listed.size:=by rw [I.lsize]; exact (List.getElem?_eq_some_iff.1 hv).1
  unfold wpOp
  rw [ho]
  simp only
  rw [if_pos (by simp [Region.wanted,hgn])]
  refine .inl (wp_value hrun ?_)
  have hex:ex i=none:=by
    cases he:ex i with
    | none=>rfl
    | some b=>exact absurd (I.early i b he).2.1 hnd
  have hX:∀ j b,ex j=some b→b ≠ w.heap.size:=fun j b he e=>by
    obtain ⟨_,_,k3,_,us',t',_,_,_,k7,_⟩:=I.early j b he
    have:=I.w.frLt (show (w0.add XB).x b=some (.cells us' t' (0,0)) by simp only [Fr.add,k3.2]; exact k7)
    omega
  refine hk (fun j=>if j=i then some w.heap.size else ex j) (setX XB w.heap.size (some (.cells us t))) _ _ ⟨I.w.aside _,by cases o.dst <;> simp [Act.put,I.size],by cases o.dst <;> exact I.defers,I.split,by simp [I.lsize],fun j hj=>?_,fun j oj hoj hj e he hb=>?_,fun s hs=>?_,fun s hs=>?_,I.untouched,fun j hj hnj u hu=>I.pend j hj (fun h=>hnj h.set) u hu,I.ok,I.rest,I.before,fun j b he=>?_,fun j k b hj hk'=>?_⟩
  · by_cases e:j=i
    · exact .inr ⟨w.heap.size,by rw [if_pos e]⟩
    · rcases I.donePre j (hj.set_ne (fun e'=>e e'.symm)) with h | ⟨b,h⟩
      · exact .inl h
      · exact .inr ⟨b,by simp only [if_neg e]; exact h⟩
  · by_cases e':i=j
    · subst e'
      rw [ho] at hoj; cases hoj
      exact (hall e he hb).set
    · exact (I.closed j oj hoj (hj.set_ne e') e he hb).set
  · have hni:dstAt cs i ≠ some s:=fun e=>by
      have:=(hs i e).2
      simp only [if_true] at this
      cases this
    have h0:=I.slotDone s fun k hk'=>by
      have hne:k ≠ i:=fun e=>by subst e; exact hni hk'
      obtain ⟨h1,h2⟩:=hs k hk'
      simp only [if_neg hne] at h2
      exact ⟨h1.set_ne (fun e=>hne e.symm),h2⟩
    cases hod:o.dst with
    | none=>exact h0
    | some d =>
      rw [getD_put,if_neg]
      · exact h0
      · rintro ⟨e,_⟩
        subst e
        exact hni (by rw [dst_of hv,hvd]; exact hd.trans hod)
  · have h0:=I.slotNot s fun k hk' hdk=>hs k hk' hdk.set
    cases hod:o.dst with
    | none=>exact h0
    | some d =>
      rw [getD_put,if_neg]
      · exact h0
      · rintro ⟨e,_⟩
        subst e
        exact hs i (by rw [dst_of hv,hvd]; exact hd.trans hod) (Done.set_same hlt)
  · split at he
    · rename_i e
      subst e
      injection he with he; subst he
      refine ⟨hir,Done.set_same hlt,(Fr.free_add I.w.newFree).1,_,us,t,hv,hxx,hvg0,by simp [setX],hea,fun d hdd=>?_⟩
      have hod:o.dst=some d:=hd.symm.trans (hvd.symm.trans hdd)
      rw [hod,getD_put,if_pos ⟨rfl,by rw [I.size]; rw [hod] at hdN; simpa using hdN⟩]
    · rename_i e
      obtain ⟨k1,k2,k3,v',us',t',k4,k5,k6,k7,k8,k9⟩:=I.early j b he
      refine ⟨k1,k2.set,k3,v',us',t',k4,k5,k6,by simp only [setX,if_neg (hX j b he)]; exact k7,k8,fun d hdd=>?_⟩
      rw [← k9 d hdd]
      cases hod:o.dst with
      | none=>rfl
      | some d' =>
        rw [getD_put,if_neg]
        rintro ⟨e',_⟩
        subst e'
        exact D.one i j d (fun e'=>e e'.symm) (by rw [dst_of hv,hvd]; exact hd.trans hod) (by rw [dst_of k4]; exact hdd)
  · split at hj <;> split at hk'
    · rename_i e1 e2; rw [e1,e2]
    · injection hj with hj
      exact absurd hj.symm (hX k b hk')
    · injection hk' with hk'
      exact absurd hk'.symm (hX j b hj)
    · exact I.einj j k b hj hk'
theorem Inv.claim (D:Draw P N ops cs ord) {j:Nat} (I:Inv P w0 N ops cs ord K A0 ex XB G A st a w listed pre (j :: rem)) {b:Nat} (he:ex j=some b) :
    ∃ ex' X' A' st',Inv P w0 N ops cs ord K A0 ex' X' G A' st' a w listed (pre ++ [j]) rem:=by
  obtain ⟨k1,k2,k3,v,us,t,hv,hop,hg,hX,hea,hslot⟩:=I.early j b he
  obtain ⟨v',hv',hb,_,_,hok⟩:=okFrom_cons I.ok
  rw [hv] at hv'; cases hv'
  have hrest:=I.rest
  rw [withObs_cons hv] at hrest
  have hobs:obsFor ops cs pre j=[]:=by simp [obsFor,hv,hop]
  rw [hobs] at hrest
  simp only [vops,hg,vguard] at hrest
  have hnext:=I.next D hv
  obtain ⟨z,hrl,hz⟩:∃ z,RepL G z us∧∀ {K':V→St→Prop},vop P v.op st A K'→∀ b,st.box b=none→st.own b=none→K' (ptrV b) (st.put b z):=by
    cases hvop:v.op <;> rw [hvop] at hop hea <;> first | (simp [VOp.isAlcX] at hop; done) | skip
    · exact ⟨_,hea,fun h=>h⟩
    · rename_i x
      obtain ⟨u,hu,rfl⟩:=hea
      have hev:x.ev (rho ops cs A0 A j)=x.ev A:=X.ev_congr fun t ht=>(hnext t (by simp [VO.looks,hvop,VOp.reads,ht])).symm
      rw [hev] at hu
      rw [hvop] at hrest
      exact ⟨(x.ev A).cells,hu.cells hrest.1,fun h=>h.2⟩
  obtain ⟨hw,hbx,hbo⟩:=I.w.claim hX k3 hrl
  obtain ⟨_,hrest'⟩:=hz hrest b hbx hbo
  have hnb:∀ i ∈ pre,bf ops i j=false:=fun i hi=>by
    cases h:bf ops i j with
    | false=>rfl
    | true =>
      obtain ⟨l1,l2,e1,e2⟩:=I.before i j hi h (List.getElem?_eq_some_iff.1 hv).1
      exact (I.disj D (i:=j) (by rw [e1]; exact List.mem_append_left _ e2) (by simp)).elim
  refine ⟨fun i=>if i=j then none else ex i,setX XB b none,putV A v.dst (ptrV b),st.put b z,hw,I.size,I.defers,by rw [List.append_assoc]; exact I.split,I.lsize,fun i h=>?_,I.closed,fun s hs=>?_,I.slotNot,fun s hs=>?_,fun i hi hni u hu=>?_,hok,hrest',before_snoc I hb,fun i c hc=>?_,fun i k c hi hk=>?_⟩
  · by_cases e:i=j
    · subst e; exact .inl (by simp)
    · rcases I.donePre i h with h | ⟨c,h⟩
      · exact .inl (List.mem_append_left _ h)
      · exact .inr ⟨c,by simp only [if_neg e]; exact h⟩
  · by_cases e:v.dst=some s
    · rw [e,putV_eq,hslot s e]; exact .sc _ rfl
    · rw [putV_ne e]
      refine I.slotDone s fun k hk=>?_
      have hne:k ≠ j:=fun e'=>by subst e'; rw [dst_of hv] at hk; exact e hk
      obtain ⟨h1,h2⟩:=hs k hk
      simp only [if_neg hne] at h2
      exact ⟨h1,h2⟩
  · rw [putV_ne]
    · exact I.untouched s fun i hi=>hs i (List.mem_append_left _ hi)
    · intro e; exact hs j (by simp) (by rw [dst_of hv]; exact e)
  · rw [List.mem_append] at hi
    rcases hi with hi | hi
    · obtain ⟨h1,r',h2,h3⟩:=I.pend i hi hni u hu
      refine ⟨h1,r',by rw [rho_put D hv (hnb i hi)]; exact h2.fresh hbx,fun d hd=>?_⟩
      rw [putV_ne]
      · exact h3 d hd
      · intro e
        exact D.one i j d (fun e=>by subst e; exact I.disj D hi (by simp)) (by rw [dst_of hu]; exact hd) (by rw [dst_of hv]; exact e)
    · simp at hi; subst hi
      exact absurd k2 hni
  · split at hc
    · cases hc
    · rename_i e
      obtain ⟨q1,q2,q3,v',us',t',q4,q5,q6,q7,q8,q9⟩:=I.early i c hc
      refine ⟨?_,q2,q3,v',us',t',q4,q5,q6,?_,by rw [rho_put D hv (D.xx i j (by rw [isX_of q4,q5]) (by rw [isX_of hv,hop]))]; exact q8,q9⟩
      · rcases List.mem_cons.1 q1 with e' | e'
        · exact absurd e' e
        · exact e'
      · simp only [setX]
        rw [if_neg (fun e'=>e (I.einj i j b (by rw [← e']; exact hc) he))]
        exact q7
  · split at hi
    · cases hi
    · split at hk
      · cases hk
      · exact I.einj i k c hi hk
theorem Inv.advanceTo (D:Draw P N ops cs ord):∀ (q1 q2:List Nat) {ex:Nat→Option Nat} {XB:Nat→Option Obj} {A:Nat→V} {st:St} {pre:List Nat},Inv P w0 N ops cs ord K A0 ex XB G A st a w listed pre (q1 ++ q2)→(∀ j ∈ q1,∀ v,cs[j]?=some v→v.op.isPop=true ∨ Done listed j) →
    ∃ ex' X' A' st',Inv P w0 N ops cs ord K A0 ex' X' G A' st' a w listed (pre ++ q1) q2
  | [],q2,ex,XB,A,st,pre,I,_=>⟨ex,XB,A,st,by simpa using I⟩
  | j :: q1,q2,ex,XB,A,st,pre,I,h=>by
    obtain ⟨v,hv,_⟩:=okFrom_cons I.ok
    have step:∃ ex' X' A' st',Inv P w0 N ops cs ord K A0 ex' X' G A' st' a w listed (pre ++ [j]) (q1 ++ q2):=by
      rcases h j (by simp) v hv with hp | hd
      · obtain ⟨A',I'⟩:=I.advance D hv hp
        exact ⟨ex,XB,A',st,I'⟩
      · rcases I.donePre j hd with hpre | ⟨b,hb⟩
        · exact (I.disj D hpre (by simp)).elim
        · exact I.claim D hb
    obtain ⟨ex',X',A',st',I'⟩:=step
    obtain ⟨ex2,X2,A2,st2,I2⟩:=Inv.advanceTo D q1 q2 I' (fun k hk=>h k (by simp [hk]))
    exact ⟨ex2,X2,A2,st2,by simpa using I2⟩
theorem okFrom_ae:∀ (q1:List Nat) (i:Nat) (q2 pre:List Nat),okFrom ops cs pre (q1 ++ i :: q2)=true→∀ j ∈ q1,∀ v,cs[j]?=some v→v.op.isPop=false→bf ops i j=true ∨ isX cs i=true
  | [],_,_,_,_,j,hj,_,_,_=>by cases hj
  | k :: q1,i,q2,pre,h,j,hj,v,hv,hp=>by
    obtain ⟨v',hv',_,h2,_,h4⟩:=okFrom_cons h
    rcases List.mem_cons.1 hj with e | hj
    · subst e
      rw [hv] at hv'; cases hv'
      exact h2 hp i (by simp)
    · exact okFrom_ae q1 i q2 _ h4 j hj v hv hp
theorem any_sound (D:Draw P N ops cs ord) {Q':Exit→Act→World→Prop} {G0:Gh} (hk:∀ A' a' st' w' G',K A' st'→G0.le G'→RelAll N G' A' a'→RepW w0 G' st' w'→Q' .normal a' w') :
    ∀ (fuel:Nat) {ex:Nat→Option Nat} {XB:Nat→Option Obj} {G:Gh} {A:Nat→V} {st:St} {a:Act} {w:World} {listed:Array Bool} {pre rem:List Nat},G0.le G→Inv P w0 N ops cs ord K A0 ex XB G A st a w listed pre rem→fuel + (listed.toList.filter id).length=cs.length→wpAny P .any ops Q' fuel listed a w:=by
  have fin:∀ {ex:Nat→Option Nat} {XB:Nat→Option Obj} {G:Gh} {A:Nat→V} {st:St} {a:Act} {w:World} {listed:Array Bool} {pre rem:List Nat},G0.le G→Inv P w0 N ops cs ord K A0 ex XB G A st a w listed pre rem→(∀ i,i < cs.length→Done listed i)→Q' .normal a w:=fun {ex XB G A st a w listed pre rem} hle I hall=>by
    obtain ⟨ex',X',A',st',I'⟩:=Inv.advanceTo D rem [] (by simpa using I) (fun j _ v hv=>.inr (hall j (List.getElem?_eq_some_iff.1 hv).1))
    exact hk A' a st' w G I'.rest hle ⟨I'.size,I'.defers,fun t=>I'.slotDone t fun i hi=>⟨hall i (dst_lt hi),I'.exPre D (by
      have h:=D.mem i (dst_lt hi)
      rw [← I'.split] at h
      simpa using h)⟩⟩ I'.w.unframe
  have noReady:∀ {ex:Nat→Option Nat} {XB:Nat→Option Obj} {G:Gh} {A:Nat→V} {st:St} {a:Act} {w:World} {listed:Array Bool} {pre rem:List Nat},Inv P w0 N ops cs ord K A0 ex XB G A st a w listed pre rem→Region.ready .any ops listed=[]→∀ i,i < cs.length→Done listed i:=fun {ex XB G A st a w listed pre rem} I h i=>by
    induction i using Nat.strongRecOn with
    | _ i ih =>
      intro hi
      have ho:ops[i]?=some (ops[i]'(by rw [← D.len]; exact hi)):=Array.getElem?_eq_getElem _
      cases hd:listed.getD i false with
      | true=>exact hd
      | false =>
        exfalso
        have:i ∈ Region.ready .any ops listed:=mem_ready.2 ⟨by
          have hlt:i < listed.size:=by rw [I.lsize]; exact hi
          simp [hlt] at hd ⊢; exact hd,_,ho,fun e he hb=>ih e.on (D.back i _ ho e he hb) (Nat.lt_trans (D.back i _ ho e he hb) hi)⟩
        rw [h] at this; cases this
  have count:∀ {listed:Array Bool} {i:Nat},i < listed.size→¬ Done listed i→((listed.setIfInBounds i true).toList.filter id).length=(listed.toList.filter id).length + 1:=fun {listed i} hi hd=>by
    have hl:listed.toList[i]?=some false:=by
      unfold Done at hd
      simp [hi] at hd
      simp [hi,hd]
    rw [Array.toList_setIfInBounds]
    generalize listed.toList=l at hl
    clear hd hi
    induction l generalizing i with
    | nil=>simp at hl
    | cons x l ih =>
      cases i with
      | zero=>simp at hl; subst hl; simp
      | succ i =>
        have:=ih (i:=i) (by simpa using hl)
        cases x <;> simp [List.set_cons_succ,this]
  have step:∀ {ex:Nat→Option Nat} {XB:Nat→Option Obj} {G:Gh} {A:Nat→V} {st:St} {a:Act} {w:World} {listed:Array Bool} {pre rem:List Nat} (fuel:Nat),G0.le G→Inv P w0 N ops cs ord K A0 ex XB G A st a w listed pre rem→fuel + 1 + (listed.toList.filter id).length=cs.length →
      (∀ {ex:Nat→Option Nat} {XB:Nat→Option Obj} {G:Gh} {A:Nat→V} {st:St} {a:Act} {w:World} {listed:Array Bool} {pre rem:List Nat},G0.le G→Inv P w0 N ops cs ord K A0 ex XB G A st a w listed pre rem→fuel + (listed.toList.filter id).length=cs.length→wpAny P .any ops Q' fuel listed a w) →
      ∀ i ∈ Region.ready .any ops listed,wpOp P ops Q' i (wpAny P .any ops Q' fuel (listed.setIfInBounds i true)) a w:=fun {ex XB G A st a w listed pre rem} fuel hle I hf ih i hi=>by
    obtain ⟨hun,o,ho,hall⟩:=mem_ready.1 hi
    have hlt:i < cs.length:=by rw [D.len]; exact (Array.getElem?_eq_some_iff.1 ho).1
    have hls:i < listed.size:=by rw [I.lsize]; exact hlt
    have hnd:¬ Done listed i:=by unfold Done; simp [hls] at hun ⊢; exact hun
    have hv:cs[i]?=some cs[i]:=List.getElem?_eq_getElem hlt
    have hc:=count hls hnd
    by_cases hip:i ∈ pre
    · exact I.carry D ho hv hnd hip hall fun G' a' w' I' hle'=>ih (hle.trans hle') I' (by rw [hc]; omega)
    · have hir:i ∈ rem:=by
        have:=D.mem i hlt
        rw [← I.split,List.mem_append] at this
        exact this.resolve_left hip
      cases hx:cs[i].op.isAlcX with
      | true=>exact I.ahead D ho hv hx hir hnd hall fun ex' X' a' w' I'=>ih hle I' (by rw [hc]; omega)
      | false =>
      obtain ⟨q1,q2,rfl⟩:=List.append_of_mem hir
      obtain ⟨ex',X',A',st',I'⟩:=Inv.advanceTo D q1 (i :: q2) I (fun j hj v hv'=>by
        cases hp:v.op.isPop with
        | true=>exact .inl rfl
        | false =>
          refine .inr ?_
          rcases okFrom_ae q1 i q2 pre I.ok j hj v hv' hp with h | h
          · exact I.waits D i o ho hall j (List.getElem?_eq_some_iff.1 hv').1 h
          · simp only [isX,hv] at h
            rw [hx] at h; cases h)
      cases hp:cs[i].op.isPop with
      | false=>exact I'.acts D ho hv hp hx hall fun G' A2 st' a' w' I2 hle'=>ih (hle.trans hle') I2 (by rw [hc]; omega)
      | true =>
        obtain ⟨A2,I2⟩:=I'.advance D hv hp
        exact I2.carry D ho hv hnd (by simp) hall fun G' a' w' I3 hle'=>ih (hle.trans hle') I3 (by rw [hc]; omega)
  intro fuel
  induction fuel with
  | zero =>
    intro ex XB G A st a w listed pre rem hle I hf
    have hall:∀ i,i < cs.length→Done listed i:=fun i hi=>by
      have hl:(listed.toList.filter id).length=listed.toList.length:=by
        have h1:listed.toList.length=cs.length:=by rw [Array.length_toList]; exact I.lsize
        omega
      have:=List.length_filter_eq_length_iff.1 hl
      have hls:i < listed.size:=by rw [I.lsize]; exact hi
      have h2:=this listed[i] (by simp)
      unfold Done
      simpa [hls] using h2
    refine ⟨?_,fin hle I hall⟩
    cases hr:Region.ready .any ops listed with
    | nil=>rfl
    | cons i l =>
      have hi:i ∈ Region.ready .any ops listed:=by rw [hr]; simp
      obtain ⟨hun,o,ho,_⟩:=mem_ready.1 hi
      have:=hall i (by rw [D.len]; exact (Array.getElem?_eq_some_iff.1 ho).1)
      unfold Done at this
      have hls:i < listed.size:=by rw [I.lsize,D.len]; exact (Array.getElem?_eq_some_iff.1 ho).1
      simp [hls] at hun this
      rw [this] at hun; cases hun
  | succ fuel ih =>
    intro ex XB G A st a w listed pre rem hle I hf
    exact ⟨fun h=>fin hle I (noReady I h),step fuel hle I (by omega) ih⟩
end
theorem draw_sound {vs:List VO} (hm:P.follows .mixedOrders=true) (hc:cDraw P N ops=some vs) (id:Nat) {Q':Exit→Act→World→Prop} {G:Gh} {A:Nat→V} {a:Act} {st:St} {w:World} (hr:RelAll N G A a) (hw:RepW w0 G st w) (h:vops P K vs A st)
    (hk:∀ A' a' st' w' G',K A' st'→G.le G'→RelAll N G' A' a'→RepW w0 G' st' w'→Q' .normal a' w'):(Code.region id ops true).wp P Q' a w:=by
  have key:∀ (cs:List VO) (ord:List Nat),cs.length=ops.size→(∀ (i:Nat) (o:Oper) (v:VO),ops.toList[i]?=some o→cs[i]?=some v→∃ v0,cOper P N ops o=some v0∧Is v v0)→okDraw ops cs ord=true→vops P K (withObs ops cs [] ord) A st→(Code.region id ops true).wp P Q' a w:=fun cs ord hl hget hok h=>by
    obtain ⟨D,hok2⟩:=okDraw_spec hl hget hok
    refine wp_region_any hm ?_
    have hw2:RepW (w0.add fun _=>none) G st w.drew:=by
      have e:w0.add (fun _=>none)=w0:=by
        unfold Fr.add
        congr 1
        funext b
        cases w0.x b <;> rfl
      rw [e]; exact hw.drew
    refine any_sound (A0:=A) D (G0:=G) hk ops.size (A:=A) (pre:=[]) (rem:=ord) (ex:=fun _=>none) (XB:=fun _=>none) (.refl G) ⟨hw2,hr.size,hr.defers,rfl,by simp [D.len],fun i hi=>?_,fun j o ho hd=>?_,fun s hs=>hr.rep s,fun s hs=>hr.rep s,fun s hs=>rfl,fun i hi=>(by cases hi),hok2,h,fun i j hi=>(by cases hi),fun i b hi=>(by cases hi),fun i j b hi=>(by cases hi)⟩ ?_
    · unfold Done at hi; rw [Array.getD_eq_getD_getElem?,Array.getElem?_replicate] at hi; split at hi <;> simp at hi
    · unfold Done at hd; rw [Array.getD_eq_getD_getElem?,Array.getElem?_replicate] at hd; split at hd <;> simp at hd
    · simp [D.len]
  unfold cDraw at hc
  split at hc
  · rename_i cs hcs
    obtain ⟨hlen,hget⟩:=mapM_get hcs
    have hl:cs.length=ops.size:=by simpa using hlen
    split at hc
    · rename_i hall
      have hnx:∀ (i:Nat) (v:VO),cs[i]?=some v→v.op.isAlcX=false:=fun i v hv=>by
        have:=List.all_eq_true.1 hall v (List.mem_of_getElem? hv)
        simpa using this
      split at hc
      · rename_i hok
        simp only [Option.some.injEq] at hc
        subst hc
        exact key cs _ hl (fun i o v ho hv=>⟨v,hget i o v ho hv,.inl ⟨rfl,hnx i v hv⟩⟩) hok h
      · have tx:∀ bx,okDraw ops (cs.map (VO.toX bx)) (canonX ops (cs.map (VO.toX bx)) cs.length [])=true→vops P K (withObs ops (cs.map (VO.toX bx)) [] (canonX ops (cs.map (VO.toX bx)) cs.length [])) A st→(Code.region id ops true).wp P Q' a w:=fun bx hok h=>by
          refine key (cs.map (VO.toX bx)) _ (by simpa using hl) (fun i o v ho hv=>?_) hok h
          rw [List.getElem?_map] at hv
          obtain ⟨v0,hv0,rfl⟩:=Option.map_eq_some_iff.1 hv
          exact ⟨v0,hget i o v0 ho hv0,toX_is (hnx i v0 hv0)⟩
        split at hc
        · rename_i hok
          simp only [Option.some.injEq] at hc
          subst hc
          exact tx false hok h
        · split at hc
          · rename_i hok
            simp only [Option.some.injEq] at hc
            subst hc
            exact tx true hok h
          · cases hc
    · cases hc
  · cases hc
end
end
section
open Go Go.RowKit
section
variable {P:Program} {w0:Fr} {G:Gh} {st:St} {w:World} {A:Nat→V} {a:Act} {N:Nat}
def cReg (P:Program) (N:Nat) (ops:Array Oper) (draw:Bool):Option (List VO) :=
  if draw then (if P.follows .mixedOrders then cDraw P N ops else none) else ops.toList.mapM (cOper P N ops)
def cCode (P:Program) (N:Nat):Code→Option VC
  | .skip=>some .skip
  | .label _=>some .skip
  | .region _ ops draw=>(cReg P N ops draw).map .reg
  | .seq a b=>match cCode P N a,cCode P N b with
    | some a,some b=>some (.seq a b)
    | _,_=>none
  | .cond c a b=>match cx c,cCode P N a,cCode P N b with
    | some c,some a,some b=>some (.cond c a b)
    | _,_,_=>none
  | .block id c=>(cCode P N c).map (.blk id)
  | .loop c=>(cCode P N c).map .loop
  | .scope c=>cCode P N c
  | .exit id=>some (.exit id)
  | .ret=>some .ret
  | _=>none
def exOf:VEx→Exit
  | .normal=>.normal
  | .exit id=>.exit id
  | .ret=>.ret
theorem reg_sound {ops:Array Oper} {draw:Bool} {vs:List VO} (hc:cReg P N ops draw=some vs) (id:Nat) {Q':Exit→Act→World→Prop} {K:(Nat→V)→St→Prop} (hr:RelAll N G A a) (hw:RepW w0 G st w) (h:vops P K vs A st)
    (hk:∀ A' a' st' w' G',K A' st'→G.le G'→RelAll N G' A' a'→RepW w0 G' st' w'→Q' .normal a' w'):(Code.region id ops draw).wp P Q' a w:=by
  unfold cReg at hc
  split at hc
  · rename_i hd
    subst hd
    split at hc
    · rename_i hm
      exact draw_sound hm hc id hr hw h hk
    · cases hc
  · rename_i hd
    have:draw=false:=by simpa using hd
    subst this
    exact wp_region_list (vops_sound ops.toList vs hc hr hw h hk)
theorem vwp_sound:∀ (c:Code) (vc:VC),cCode P N c=some vc→∀ {G:Gh} {A:Nat→V} {a:Act} {st:St} {w:World} {Q:VQ} {Q':Exit→Act→World→Prop},RelAll N G A a→RepW w0 G st w→vwp P vc Q A st →
    (∀ ve A' a' st' w' G',Q ve A' st'→G.le G'→RelAll N G' A' a'→RepW w0 G' st' w'→Q' (exOf ve) a' w')→c.wp P Q' a w:=by
  intro c
  induction c with
  | skip =>
    intro vc hc G A a st w Q Q' hr hw h hk
    simp only [cCode,Option.some.injEq] at hc; subst hc
    exact wp_skip (hk .normal A a st w G h (.refl G) hr hw)
  | label l =>
    intro vc hc G A a st w Q Q' hr hw h hk
    simp only [cCode,Option.some.injEq] at hc; subst hc
    exact wp_label (hk .normal A a st w G h (.refl G) hr hw)
  | region id ops draw =>
    intro vc hc G A a st w Q Q' hr hw h hk
    simp only [cCode,Option.map_eq_some_iff] at hc
    obtain ⟨vs,hvs,rfl⟩:=hc
    exact reg_sound hvs id hr hw h fun A' a' st' w' G'=>hk .normal A' a' st' w' G'
  | seq x y ihx ihy =>
    intro vc hc G A a st w Q Q' hr hw h hk
    simp only [cCode] at hc
    split at hc
    · rename_i vx vy hx hy
      simp only [Option.some.injEq] at hc; subst hc
      refine wp_seq (ihx vx hx hr hw h fun ve A' a' st' w' G' hq hle hr' hw'=>?_)
      cases ve with
      | normal=>exact ihy vy hy hr' hw' hq fun ve A2 a2 st2 w2 G2 k1 k2 k3 k4=>hk ve A2 a2 st2 w2 G2 k1 (hle.trans k2) k3 k4
      | exit id=>exact hk (.exit id) A' a' st' w' G' hq hle hr' hw'
      | ret=>exact hk .ret A' a' st' w' G' hq hle hr' hw'
    · cases hc
  | cond cc x y ihx ihy =>
    intro vc hc G A a st w Q Q' hr hw h hk
    simp only [cCode] at hc
    split at hc
    · rename_i c' vx vy hcx hx hy
      simp only [Option.some.injEq] at hc; subst hc
      simp only [vwp] at h
      have hcr:=cx_rep hcx (hr.on c'.reads) (fun t h=>h)
      split at h
      · rename_i t ht
        rw [ht] at hcr
        cases t
        · exact wp_cond_false hcr.sc_inv (ihy vy hy hr hw (h.2 rfl) hk)
        · exact wp_cond_true hcr.sc_inv (ihx vx hx hr hw (h.1 rfl) hk)
      · exact h.elim
    · cases hc
  | block id c ih =>
    intro vc hc G A a st w Q Q' hr hw h hk
    simp only [cCode,Option.map_eq_some_iff] at hc
    obtain ⟨v,hv,rfl⟩:=hc
    refine wp_block (ih v hv hr hw h fun ve A' a' st' w' G' hq hle hr' hw'=>?_)
    cases ve with
    | normal=>exact hk .normal A' a' st' w' G' hq hle hr' hw'
    | ret=>exact hk .ret A' a' st' w' G' hq hle hr' hw'
    | exit i =>
      simp only [VQ.blk] at hq
      simp only [exOf,Exit.inBlock]
      by_cases e:i=id
      · rw [if_pos e] at hq ⊢; exact hk .normal A' a' st' w' G' hq hle hr' hw'
      · rw [if_neg e] at hq ⊢; exact hk (.exit i) A' a' st' w' G' hq hle hr' hw'
  | loop c ih =>
    intro vc hc G A a st w Q Q' hr hw h hk
    simp only [cCode,Option.map_eq_some_iff] at hc
    obtain ⟨v,hv,rfl⟩:=hc
    obtain ⟨I,μ,h0,hround⟩:=h
    refine wp_loop_ghost (fun n a w=>∃ G' A st,G.le G'∧I A st∧μ A st=n∧RelAll N G' A a∧RepW w0 G' st w) (μ A st) ⟨G,A,st,.refl G,h0,rfl,hr,hw⟩ ?_
    rintro n a1 w1 ⟨G1,A1,st1,hle1,hI1,rfl,hr1,hw1⟩
    refine ih v hv hr1 hw1 (hround A1 st1 hI1) fun ve A' a' st' w' G' hq hle hr' hw'=>?_
    cases ve with
    | normal=>exact ⟨μ A' st',hq.2,G',A',st',hle1.trans hle,hq.1,rfl,hr',hw'⟩
    | exit id=>exact hk (.exit id) A' a' st' w' G' hq (hle1.trans hle) hr' hw'
    | ret=>exact hk .ret A' a' st' w' G' hq (hle1.trans hle) hr' hw'
  | scope c ih =>
    intro vc hc G A a st w Q Q' hr hw h hk
    simp only [cCode] at hc
    refine wp_scope_straight (ih vc hc hr hw h fun ve A' a' st' w' G' hq hle hr' hw'=>?_)
    have:=hk ve A' a' st' w' G' hq hle hr' hw'
    cases ve <;> exact this
  | exit id =>
    intro vc hc G A a st w Q Q' hr hw h hk
    simp only [cCode,Option.some.injEq] at hc; subst hc
    exact wp_exit (hk (.exit id) A a st w G h (.refl G) hr hw)
  | ret =>
    intro vc hc G A a st w Q Q' hr hw h hk
    simp only [cCode,Option.some.injEq] at hc; subst hc
    exact wp_ret (hk .ret A a st w G h (.refl G) hr hw)
  | _=>intro vc hc; simp [cCode] at hc
inductive RV where
  | tmp (t:Nat)
  | cell (t:Nat) (n:Option Nat)
structure FC where
  n:Nat
  body:VC
  res:List RV
def cRes (P:Program):ResultVar→Option RV
  | .tmp t=>some (.tmp t)
  | .cell t ty=>(layout P ty).map fun l=>.cell t l.1
def cFun (P:Program) (f:FuncId):Option FC :=
  match P.funcs[f]? with
  | some fn=>match fn.body with
    | some c=>match cCode P fn.ntmps c,fn.results.toList.mapM (cRes P) with
      | some b,some r=>some ⟨fn.ntmps,b,r⟩
      | _,_=>none
    | none=>none
  | none=>none
def rvVal (st:St) (A:Nat→V):RV→Prop × V
  | .tmp t=>(True,A t)
  | .cell t n=>vload st n (A t)
def rvAll (st:St) (A:Nat→V):List RV→Prop
  | []=>True
  | r :: rs=>(rvVal st A r).1∧rvAll st A rs
def resV (st:St) (A:Nat→V) (res:List RV):V :=
  match res with
  | [r]=>(rvVal st A r).2
  | rs=>.tup (rs.map fun r=>(rvVal st A r).2)
def Wk (d d':V):Prop:=∀ G v,Rep1 G d v→Rep1 G d' v
theorem Wk.refl (d:V):Wk d d:=fun _ _ h=>h
def vret (res:List RV) (Q:V→St→Prop) (A:Nat→V) (st:St):Prop :=
  rvAll st A res∧∃ r st',Wk (resV st A res) r∧st'.weak st∧Q r st'
def finQ (res:List RV) (Q:V→St→Prop):VQ
  | .normal,A,st=>vret res Q A st
  | .ret,A,st=>vret res Q A st
  | .exit _,_,_=>False
def args0 (args:List V):Nat→V:=fun t=>args.getD t .und
def resF (tmps:Array Value):ResultVar→Sem Value
  | .tmp t=>pure (tmps.getD t undef)
  | .cell c t=>do loadVar t (← asAddr (tmps.getD c undef))
theorem results_eq (fn:Func) (tmps:Array Value):results fn tmps=(do let vs ← fn.results.mapM (resF tmps); pure (if h:vs.size=1 then vs[0] else .tuple vs)):=rfl
theorem res_run {rs:List RV}:∀ {l:List ResultVar} (_:l.mapM (cRes P)=some rs) (_:RelAll N G A a) (_:RepW w0 G st w) (_:rvAll st A rs),
    ∃ us,(l.mapM (resF a.tmps)).run P w=.ok us w∧us.length=rs.length ∧
      ∀ (i:Nat) (r:RV) (u:Value),rs[i]?=some r→us[i]?=some u→Rep1 G (rvVal st A r).2 u:=by
  induction rs with
  | nil =>
    intro l hc hr hw h
    have hl:l=[]:=List.eq_nil_of_length_eq_zero (by have:=(mapM_get hc).1; simpa using this.symm)
    subst hl
    exact ⟨[],by simp,rfl,fun i r u hi=>by simp at hi⟩
  | cons r rs ih =>
    intro l hc hr hw h
    cases l with
    | nil=>simp at hc
    | cons x l =>
      simp only [List.mapM_cons,Option.pure_def,Option.bind_eq_bind,Option.bind_eq_some_iff,Option.some.injEq,List.cons.injEq] at hc
      obtain ⟨r',hr',rs',hrs',rfl,rfl⟩:=hc
      obtain ⟨us,h1,h2,h3⟩:=ih hrs' hr hw h.2
      have hx:∃ u,(resF a.tmps x).run P w=.ok u w∧Rep1 G (rvVal st A r').2 u:=by
        cases x with
        | tmp t =>
          simp only [cRes,Option.some.injEq] at hr'; subst hr'
          exact ⟨_,rfl,hr.rep t⟩
        | cell c t =>
          simp only [cRes,Option.map_eq_some_iff] at hr'
          obtain ⟨⟨n,size⟩,hl,rfl⟩:=hr'
          obtain ⟨u,k1,k2⟩:=vload_sound hl hw (hr.rep c) h.1
          refine ⟨u,?_,k2⟩
          have hp:∃ ad,a.tmps.getD c undef=.pointer (some ad):=by
            have h0:=h.1
            simp only [rvVal] at h0
            have h4:=hr.rep c
            unfold vload at h0
            split at h0
            · rename_i hc'
              rw [hc'] at h4
              generalize a.tmps.getD c undef=z at h4
              cases h4; exact ⟨_,rfl⟩
            · rename_i hc'
              rw [hc'] at h4
              exact ⟨_,h4.sc_inv⟩
            · exact h0.elim
          obtain ⟨ad,had⟩:=hp
          rw [had] at k1
          simp only [resF,had]
          simpa [Instr.loadAt,Instr.sureAddr,asAddr] using k1
      obtain ⟨u,k1,k2⟩:=hx
      refine ⟨u :: us,?_,by simp [h2],fun i r u' hi hu=>?_⟩
      · simp only [List.mapM_cons,Sem.run_bind,k1,Result.andThen_ok,h1,Sem.run_pure]
      · cases i with
        | zero=>simp at hi hu; subst hi; subst hu; exact k2
        | succ i=>exact h3 i r u' (by simpa using hi) (by simpa using hu)
structure St.Wf (s:St):Prop where
  box:∀ b cs,s.box b=some cs→b < s.sz
  own:∀ g m,s.own g=some m→g < s.sz
  ok:∀ b cs,s.box b=some cs→∀ c ∈ cs,c.Ok
theorem vcalls_enter {f:FuncId} {F:FC} (hf:cFun P f=some F) {args:List V} {Q:V→St→Prop} (hn:args.length≤F.n) (h:st.Wf→(∀ d ∈ args,d.Ok)→vwp P F.body (finQ F.res Q) (args0 args) st):VCalls P f args st Q:=by
  intro w0 G w us hw hl hrep
  unfold cFun at hf
  split at hf
  · rename_i fn hfn
    split at hf
    · rename_i c hc
      split at hf
      · rename_i b r hb hres
        simp only [Option.some.injEq] at hf; subst hf
        simp only at h hn
        refine calls_of_wp hfn hc (vwp_sound (N:=fn.ntmps) c b hb (G:=G) (A:=args0 args) ?_ hw (h ⟨fun b cs hb=>(hw.box b cs hb).1,fun g m hg=>(hw.own g m hg).1,fun b cs hb=>(hw.box b cs hb).2.2.2.2.ok⟩ fun d hd=>?_) ?_)
        · refine ⟨by simp; omega,rfl,fun t=>?_⟩
          simp only [args0]
          by_cases ht:t < us.size
          · have h1:args[t]?=some (args[t]'(by omega)):=List.getElem?_eq_getElem _
            have h2:us[t]?=some us[t]:=Array.getElem?_eq_getElem ht
            have:=hrep t _ _ h1 h2
            rw [List.getD_eq_getElem?_getD,h1,Array.getD_eq_getD_getElem?,Array.getElem?_append_left ht,h2]
            exact this
          · have h1:args[t]?=none:=List.getElem?_eq_none (by omega)
            rw [List.getD_eq_getElem?_getD,h1,Array.getD_eq_getD_getElem?,Array.getElem?_append_right (by omega)]
            have:((Array.replicate (fn.ntmps - us.size) undef)[t - us.size]?).getD undef=undef:=by
              rw [Array.getElem?_replicate]; split <;> rfl
            rw [this]
            exact .und
        · obtain ⟨i,hi,rfl⟩:=List.mem_iff_getElem.1 hd
          exact (hrep i _ _ (List.getElem?_eq_getElem hi) (Array.getElem?_eq_getElem (by omega))).ok
        · intro ve A' a' st' w' G' hq hle hr' hw'
          have fin:vret r Q A' st'→a'.defers=[]∧∃ v,(results fn a'.tmps).run P w'=.ok v w'∧∃ u r st2 G2,Ending.returned v=.returned u∧Q r st2∧Rep1 G2 r u∧G.le G2∧RepW w0 G2 st2 w':=fun hv=>by
            obtain ⟨h1,r',st2,h2,h3,h4⟩:=hv
            obtain ⟨vs,k1,k2,k3⟩:=res_run hres hr' hw' h1
            have hm:(fn.results.mapM (resF a'.tmps)).run P w'=.ok vs.toArray w':=by
              rw [Array.mapM_eq_mapM_toList,Sem.run_map,k1]; rfl
            refine ⟨hr'.defers,(if h:vs.toArray.size=1 then vs.toArray[0] else .tuple vs.toArray),?_,_,r',st2,G',rfl,h4,h2 _ _ ?_,hle,hw'.weak h3⟩
            · rw [results_eq,Sem.run_bind,hm]
              rfl
            · unfold resV
              split
              · rename_i r1
                have hl1:vs.length=1:=by simpa using k2
                rw [dif_pos (by simpa using hl1)]
                exact k3 0 r1 _ rfl (by simp)
              · rename_i hne
                have hl1:¬ vs.length=1:=fun e=>by
                  rw [k2] at e
                  match r,e with
                  | [x],_=>exact hne x rfl
                rw [dif_neg (by simpa using hl1)]
                refine .tup _ _ (by simp [k2]) (fun i c v hc hv=>?_)
                simp only [List.getElem?_map,Option.map_eq_some_iff] at hc
                obtain ⟨rr,hrr,rfl⟩:=hc
                exact k3 i rr v hrr (by simpa using hv)
          cases ve with
          | normal=>exact fin hq
          | ret=>exact fin hq
          | exit id=>exact hq.elim
      · cases hf
    · cases hf
  · cases hf
end
end
end Go.Proofs.YtnjmddlgpcnpeaaGreat
