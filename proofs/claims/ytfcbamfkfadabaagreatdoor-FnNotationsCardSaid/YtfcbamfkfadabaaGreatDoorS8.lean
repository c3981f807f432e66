/- Texts that belong together. -/
import Derived.Test.YtfcbamfkfadabaaGreatDoorRt
set_option linter.unusedSimpArgs false
set_option linter.unusedVariables false
set_option maxRecDepth 100000
namespace Go.Ce
section
def oG2 (t:Nat→Nat→Nat)(O:OS)(x:Nat):OS:=psM (psM (psM O (t 0 x)) (t 1 x)) (t 2 x)
def oF2 (t:Nat→Nat→Nat):Nat→OS→Nat→OS
 | 0,O,_=>O
 | k+1,O,i=>bif Nat.ble (i+1) O.m then oF2 t k (oG2 t O (dg O.oc i)) (i+1) else O
def oR2 (t:Nat→Nat→Nat)(m:Nat):OS:=oF2 t (m+1) ⟨1,0,1⟩ 0
def phN (A B:OS)(x:Nat):Nat:=dg B.oc (dg A.num x - 1)
def ckJ (s t:Nat→Nat→Nat)(m:Nat)(A B:OS):Bool:=allB m fun x=>Nat.ble (phN A B x+1) m&&(Nat.beq (phN B A (phN A B x)) x &&
 (Nat.beq (t 0 (phN A B x)) (phN A B (s 0 x))&&(Nat.beq (t 1 (phN A B x)) (phN A B (s 1 x))&&Nat.beq (t 2 (phN A B x)) (phN A B (s 2 x)))))
def ckI (s t:Nat→Nat→Nat)(m:Nat):Bool:=ckJ s t m (oR2 s m) (oR2 t m)
def tS (a b:Nat):Nat→Nat→Nat:=tbN 3 (enumN 3 (rlS a b)) (ordN 3 (enumN 3 (rlS a b)))
def tDu (t:Nat→Nat→Nat)(g x:Nat):Nat:=t (2 - g) x
def ckD (a b e:Nat):Bool:=ckI (tDu (tS a b)) (tS b a) (4*e)
theorem cd33:ckD 3 3 6=true:=by kernel_rfl
theorem cd43:ckD 4 3 12=true:=by kernel_rfl
theorem cd53:ckD 5 3 30=true:=by kernel_rfl
def tAm (t:Nat→Nat→Nat):Nat→Nat→Nat
 | 0,y=>t 1 (y / 2)*2+y%2
 | 1,y=>bif Nat.beq (y%2) 0 then t 0 (y / 2)*2 else t 2 (y / 2)*2+1
 | _,y=>y / 2*2+(1 - y%2)
theorem caT:ckI (tAm (tS 3 3)) (tS 3 4) 48=true:=by kernel_rfl
end
section
theorem cdH2:ckD 2 2 2=true:=by kernel_rfl
theorem cdH3:ckD 2 3 3=true:=by kernel_rfl
theorem cdH4:ckD 2 4 4=true:=by kernel_rfl
theorem cdH5:ckD 2 5 5=true:=by kernel_rfl
theorem cdH6:ckD 2 6 6=true:=by kernel_rfl
theorem cdH7:ckD 2 7 7=true:=by kernel_rfl
theorem cdH8:ckD 2 8 8=true:=by kernel_rfl
theorem cdH9:ckD 2 9 9=true:=by kernel_rfl
theorem cdH10:ckD 2 10 10=true:=by kernel_rfl
theorem cdH11:ckD 2 11 11=true:=by kernel_rfl
theorem cdH12:ckD 2 12 12=true:=by kernel_rfl
theorem cdH13:ckD 2 13 13=true:=by kernel_rfl
theorem cdH14:ckD 2 14 14=true:=by kernel_rfl
theorem cdH15:ckD 2 15 15=true:=by kernel_rfl
theorem cdH16:ckD 2 16 16=true:=by kernel_rfl
theorem cdH17:ckD 2 17 17=true:=by kernel_rfl
theorem cdH18:ckD 2 18 18=true:=by kernel_rfl
theorem cdH19:ckD 2 19 19=true:=by kernel_rfl
theorem cdH20:ckD 2 20 20=true:=by kernel_rfl
theorem cdH21:ckD 2 21 21=true:=by kernel_rfl
theorem cdH22:ckD 2 22 22=true:=by kernel_rfl
theorem cdH23:ckD 2 23 23=true:=by kernel_rfl
theorem cdH24:ckD 2 24 24=true:=by kernel_rfl
theorem cdH25:ckD 2 25 25=true:=by kernel_rfl
theorem cdH26:ckD 2 26 26=true:=by kernel_rfl
theorem cdH27:ckD 2 27 27=true:=by kernel_rfl
theorem cdH28:ckD 2 28 28=true:=by kernel_rfl
theorem cdH29:ckD 2 29 29=true:=by kernel_rfl
theorem cdH30:ckD 2 30 30=true:=by kernel_rfl
theorem cdH {v:Nat}(h:v<29):ckD 2 (v+2) (v+2)=true:=by
 match v,h with
 | 0,_=>exact cdH2
 | 1,_=>exact cdH3
 | 2,_=>exact cdH4
 | 3,_=>exact cdH5
 | 4,_=>exact cdH6
 | 5,_=>exact cdH7
 | 6,_=>exact cdH8
 | 7,_=>exact cdH9
 | 8,_=>exact cdH10
 | 9,_=>exact cdH11
 | 10,_=>exact cdH12
 | 11,_=>exact cdH13
 | 12,_=>exact cdH14
 | 13,_=>exact cdH15
 | 14,_=>exact cdH16
 | 15,_=>exact cdH17
 | 16,_=>exact cdH18
 | 17,_=>exact cdH19
 | 18,_=>exact cdH20
 | 19,_=>exact cdH21
 | 20,_=>exact cdH22
 | 21,_=>exact cdH23
 | 22,_=>exact cdH24
 | 23,_=>exact cdH25
 | 24,_=>exact cdH26
 | 25,_=>exact cdH27
 | 26,_=>exact cdH28
 | 27,_=>exact cdH29
 | 28,_=>exact cdH30
 | n+29,h=>omega
end
section
def tabK (t:Nat→Nat):Nat→Nat
 | 0=>0
 | k+1=>tabK t k+t k*4096^k
def tT (t:Nat→Nat→Nat)(m g x:Nat):Nat:=dg (tabK (t g) m) x
def ckA (t:Nat→Nat→Nat)(m:Nat):Bool:=allB m fun x=>Nat.beq (t 0 x) (tT t m 0 x)&&(Nat.beq (t 1 x) (tT t m 1 x)&&Nat.beq (t 2 x) (tT t m 2 x))
def ckW (a b e v f:Nat):Bool:=ckA (tS a b) (4*e)&&(ckL (tT (tS a b) (4*e)) (4*e) 1 2 b v&&ckL (tT (tS a b) (4*e)) (4*e) 0 1 a f)
theorem cw33:ckW 3 3 6 4 4=true:=by kernel_rfl
theorem cw43:ckW 4 3 12 8 6=true:=by kernel_rfl
theorem cw34:ckW 3 4 12 6 8=true:=by kernel_rfl
theorem cw53:ckW 5 3 30 20 12=true:=by kernel_rfl
theorem cw35:ckW 3 5 30 12 20=true:=by kernel_rfl
theorem cwH2:ckW 2 2 2 2 2=true:=by kernel_rfl
theorem cwH3:ckW 2 3 3 2 3=true:=by kernel_rfl
theorem cwH4:ckW 2 4 4 2 4=true:=by kernel_rfl
theorem cwH5:ckW 2 5 5 2 5=true:=by kernel_rfl
theorem cwH6:ckW 2 6 6 2 6=true:=by kernel_rfl
theorem cwH7:ckW 2 7 7 2 7=true:=by kernel_rfl
theorem cwH8:ckW 2 8 8 2 8=true:=by kernel_rfl
theorem cwH9:ckW 2 9 9 2 9=true:=by kernel_rfl
theorem cwH10:ckW 2 10 10 2 10=true:=by kernel_rfl
theorem cwH11:ckW 2 11 11 2 11=true:=by kernel_rfl
theorem cwH12:ckW 2 12 12 2 12=true:=by kernel_rfl
theorem cwH13:ckW 2 13 13 2 13=true:=by kernel_rfl
theorem cwH14:ckW 2 14 14 2 14=true:=by kernel_rfl
theorem cwH15:ckW 2 15 15 2 15=true:=by kernel_rfl
theorem cwH16:ckW 2 16 16 2 16=true:=by kernel_rfl
theorem cwH17:ckW 2 17 17 2 17=true:=by kernel_rfl
theorem cwH18:ckW 2 18 18 2 18=true:=by kernel_rfl
theorem cwH19:ckW 2 19 19 2 19=true:=by kernel_rfl
theorem cwH20:ckW 2 20 20 2 20=true:=by kernel_rfl
theorem cwH21:ckW 2 21 21 2 21=true:=by kernel_rfl
theorem cwH22:ckW 2 22 22 2 22=true:=by kernel_rfl
theorem cwH23:ckW 2 23 23 2 23=true:=by kernel_rfl
theorem cwH24:ckW 2 24 24 2 24=true:=by kernel_rfl
theorem cwH25:ckW 2 25 25 2 25=true:=by kernel_rfl
theorem cwH26:ckW 2 26 26 2 26=true:=by kernel_rfl
theorem cwH27:ckW 2 27 27 2 27=true:=by kernel_rfl
theorem cwH28:ckW 2 28 28 2 28=true:=by kernel_rfl
theorem cwH29:ckW 2 29 29 2 29=true:=by kernel_rfl
theorem cwH30:ckW 2 30 30 2 30=true:=by kernel_rfl
theorem cwZ2:ckW 2 2 2 2 2=true:=by kernel_rfl
theorem cwZ3:ckW 3 2 3 3 2=true:=by kernel_rfl
theorem cwZ4:ckW 4 2 4 4 2=true:=by kernel_rfl
theorem cwZ5:ckW 5 2 5 5 2=true:=by kernel_rfl
theorem cwZ6:ckW 6 2 6 6 2=true:=by kernel_rfl
theorem cwZ7:ckW 7 2 7 7 2=true:=by kernel_rfl
theorem cwZ8:ckW 8 2 8 8 2=true:=by kernel_rfl
theorem cwZ9:ckW 9 2 9 9 2=true:=by kernel_rfl
theorem cwZ10:ckW 10 2 10 10 2=true:=by kernel_rfl
theorem cwZ11:ckW 11 2 11 11 2=true:=by kernel_rfl
theorem cwZ12:ckW 12 2 12 12 2=true:=by kernel_rfl
theorem cwZ13:ckW 13 2 13 13 2=true:=by kernel_rfl
theorem cwZ14:ckW 14 2 14 14 2=true:=by kernel_rfl
theorem cwZ15:ckW 15 2 15 15 2=true:=by kernel_rfl
theorem cwZ16:ckW 16 2 16 16 2=true:=by kernel_rfl
theorem cwZ17:ckW 17 2 17 17 2=true:=by kernel_rfl
theorem cwZ18:ckW 18 2 18 18 2=true:=by kernel_rfl
theorem cwZ19:ckW 19 2 19 19 2=true:=by kernel_rfl
theorem cwZ20:ckW 20 2 20 20 2=true:=by kernel_rfl
theorem cwZ21:ckW 21 2 21 21 2=true:=by kernel_rfl
theorem cwZ22:ckW 22 2 22 22 2=true:=by kernel_rfl
theorem cwZ23:ckW 23 2 23 23 2=true:=by kernel_rfl
theorem cwZ24:ckW 24 2 24 24 2=true:=by kernel_rfl
theorem cwZ25:ckW 25 2 25 25 2=true:=by kernel_rfl
theorem cwZ26:ckW 26 2 26 26 2=true:=by kernel_rfl
theorem cwZ27:ckW 27 2 27 27 2=true:=by kernel_rfl
theorem cwZ28:ckW 28 2 28 28 2=true:=by kernel_rfl
theorem cwZ29:ckW 29 2 29 29 2=true:=by kernel_rfl
theorem cwZ30:ckW 30 2 30 30 2=true:=by kernel_rfl
theorem cwH {v:Nat}(h:v<29):ckW 2 (v+2) (v+2) 2 (v+2)=true:=by
 match v,h with
 | 0,_=>exact cwH2
 | 1,_=>exact cwH3
 | 2,_=>exact cwH4
 | 3,_=>exact cwH5
 | 4,_=>exact cwH6
 | 5,_=>exact cwH7
 | 6,_=>exact cwH8
 | 7,_=>exact cwH9
 | 8,_=>exact cwH10
 | 9,_=>exact cwH11
 | 10,_=>exact cwH12
 | 11,_=>exact cwH13
 | 12,_=>exact cwH14
 | 13,_=>exact cwH15
 | 14,_=>exact cwH16
 | 15,_=>exact cwH17
 | 16,_=>exact cwH18
 | 17,_=>exact cwH19
 | 18,_=>exact cwH20
 | 19,_=>exact cwH21
 | 20,_=>exact cwH22
 | 21,_=>exact cwH23
 | 22,_=>exact cwH24
 | 23,_=>exact cwH25
 | 24,_=>exact cwH26
 | 25,_=>exact cwH27
 | 26,_=>exact cwH28
 | 27,_=>exact cwH29
 | 28,_=>exact cwH30
 | n+29,h=>omega
theorem cwZ {v:Nat}(h:v<29):ckW (v+2) 2 (v+2) (v+2) 2=true:=by
 match v,h with
 | 0,_=>exact cwZ2
 | 1,_=>exact cwZ3
 | 2,_=>exact cwZ4
 | 3,_=>exact cwZ5
 | 4,_=>exact cwZ6
 | 5,_=>exact cwZ7
 | 6,_=>exact cwZ8
 | 7,_=>exact cwZ9
 | 8,_=>exact cwZ10
 | 9,_=>exact cwZ11
 | 10,_=>exact cwZ12
 | 11,_=>exact cwZ13
 | 12,_=>exact cwZ14
 | 13,_=>exact cwZ15
 | 14,_=>exact cwZ16
 | 15,_=>exact cwZ17
 | 16,_=>exact cwZ18
 | 17,_=>exact cwZ19
 | 18,_=>exact cwZ20
 | 19,_=>exact cwZ21
 | 20,_=>exact cwZ22
 | 21,_=>exact cwZ23
 | 22,_=>exact cwZ24
 | 23,_=>exact cwZ25
 | 24,_=>exact cwZ26
 | 25,_=>exact cwZ27
 | 26,_=>exact cwZ28
 | 27,_=>exact cwZ29
 | 28,_=>exact cwZ30
 | n+29,h=>omega
end
end Go.Ce
