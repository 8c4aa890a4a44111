/- joined texts -/
import Derived.Test.YtkfpmjjcogigfaaGreatDoorQ3
import Derived.Test.YtkfpmjjcogigfaaGreatDoorProg
set_option linter.all false
namespace Go.Wk
open Go.Proofs
noncomputable abbrev TP:=Tryz.prog
abbrev Pt(b:Nat):Va:=.pointer (some ⟨b,0,none⟩)
abbrev Ii(i:Int):Va:=.int .i64 i
theorem ag2:zai TP 2=some false:=by kernel_rfl
theorem ag3:zai TP 3=some false:=by kernel_rfl
theorem ag4:zai TP 4=some false:=by kernel_rfl
theorem ag5:zai TP 5=some false:=by kernel_rfl
theorem yK:zai TP 9=some false:=by kernel_rfl
theorem zko:zai TP 28=some false:=by kernel_rfl
theorem zex:zai TP 30=some false:=by kernel_rfl
theorem za5:zai TP 31=some false:=by kernel_rfl
theorem zcb:zai TP 32=some false:=by kernel_rfl
theorem zcB:zai TP 33=some false:=by kernel_rfl
theorem zbz:zai TP 35=some true:=by kernel_rfl
theorem yY:zai TP 36=some false:=by kernel_rfl
theorem zcv:zai TP 37=some false:=by kernel_rfl
theorem zbQ:zai TP 39=some true:=by kernel_rfl
theorem zc5:zai TP 46=some false:=by kernel_rfl
theorem zbd:zai TP 48=some true:=by kernel_rfl
theorem zq1:zai TP 52=some false:=by kernel_rfl
theorem zr6:zai TP 64=some false:=by kernel_rfl
theorem zdh:zai TP 65=some false:=by kernel_rfl
theorem zaU:zai TP 67=some true:=by kernel_rfl
theorem zrg:zai TP 78=some true:=by kernel_rfl
theorem zC3:zai TP 80=some false:=by kernel_rfl
theorem zey:zai TP 81=some false:=by kernel_rfl
theorem zyv:zai TP 87=some false:=by kernel_rfl
theorem zCZ:zai TP 98=some true:=by kernel_rfl
theorem zti:zai TP 105=some false:=by kernel_rfl
theorem zbK:zai TP 108=some false:=by kernel_rfl
theorem zbU:zai TP 109=some false:=by kernel_rfl
theorem zaG:zai TP 111=some true:=by kernel_rfl
theorem zj1:zai TP 112=some false:=by kernel_rfl
theorem zcz:zai TP 114=some true:=by kernel_rfl
theorem zgJ:zai TP 120=some false:=by kernel_rfl
theorem ziC:zai TP 121=some false:=by kernel_rfl
theorem zhA:zai TP 126=some true:=by kernel_rfl
theorem zhy:zai TP 137=some true:=by kernel_rfl
theorem zBV:zai TP 156=some false:=by kernel_rfl
theorem zb6:zai TP 173=some false:=by kernel_rfl
theorem zeu:zai TP 176=some false:=by kernel_rfl
theorem zAm:zai TP 182=some false:=by kernel_rfl
theorem zqs:zai TP 189=some true:=by kernel_rfl
theorem zBI:zai TP 192=some false:=by kernel_rfl
theorem zqp:zai TP 215=some true:=by kernel_rfl
theorem zhN:zai TP 224=some false:=by kernel_rfl
theorem zBc:zai TP 240=some false:=by kernel_rfl
theorem zCh:zai TP 277=some false:=by kernel_rfl
theorem zsK:zai TP 327=some true:=by kernel_rfl
theorem zqk:zai TP 331=some false:=by kernel_rfl
theorem zzN:zai TP 347=some false:=by kernel_rfl
theorem zBU:zai TP 380=some false:=by kernel_rfl
theorem zBp:zai TP 382=some false:=by kernel_rfl
theorem zAc:zai TP 388=some false:=by kernel_rfl
theorem zwz:zai TP 397=some true:=by kernel_rfl
theorem zBR:zai TP 443=some false:=by kernel_rfl
theorem zch:zmJ TP 78=some (2,9):=by kernel_rfl
theorem zk3:zmJ TP 397=some (2,176):=by kernel_rfl
theorem zpd:zmJ TP 426=some (9,5):=by kernel_rfl
theorem bd8:zp TP 8=true:=by kernel_rfl
theorem bd9:zp TP 9=true:=by kernel_rfl
theorem zyZ:zp TP 10=true:=by kernel_rfl
theorem zDh:zp TP 11=true:=by kernel_rfl
theorem zlN:zp TP 12=true:=by kernel_rfl
theorem zkq:zp TP 13=true:=by kernel_rfl
theorem zzr:zp TP 16=true:=by kernel_rfl
theorem zxw:zp TP 17=true:=by kernel_rfl
theorem zCO:zp TP 18=true:=by kernel_rfl
theorem zCf:zp TP 19=true:=by kernel_rfl
theorem zCH:zp TP 20=true:=by kernel_rfl
theorem zsF:zp TP 21=true:=by kernel_rfl
theorem zx0:zp TP 22=true:=by kernel_rfl
theorem zDi:zp TP 23=true:=by kernel_rfl
theorem zCi:zp TP 24=true:=by kernel_rfl
theorem zx3:zp TP 25=true:=by kernel_rfl
theorem zDc:zp TP 26=true:=by kernel_rfl
theorem zCI:zp TP 27=true:=by kernel_rfl
theorem zy9:zp TP 29=true:=by kernel_rfl
theorem zzG:zp TP 30=true:=by kernel_rfl
theorem zBP:zp TP 31=true:=by kernel_rfl
theorem zu4:zp TP 32=true:=by kernel_rfl
theorem zz0:zp TP 33=true:=by kernel_rfl
theorem zCx:zp TP 34=true:=by kernel_rfl
theorem zCG:zp TP 35=true:=by kernel_rfl
theorem zAe:zp TP 38=true:=by kernel_rfl
theorem zCL:zp TP 39=true:=by kernel_rfl
theorem zxr:zp TP 40=true:=by kernel_rfl
theorem zyE:zp TP 41=true:=by kernel_rfl
theorem zCN:zp TP 42=true:=by kernel_rfl
theorem zCB:zp TP 43=true:=by kernel_rfl
theorem zDe:zp TP 44=true:=by kernel_rfl
theorem zCt:zp TP 45=true:=by kernel_rfl
theorem zz5:zp TP 46=true:=by kernel_rfl
theorem ziR:zp TP 47=true:=by kernel_rfl
theorem zC7:zp TP 48=true:=by kernel_rfl
theorem zC5:zp TP 49=true:=by kernel_rfl
theorem zuK:zp TP 50=true:=by kernel_rfl
theorem zza:zp TP 51=true:=by kernel_rfl
theorem zzP:zp TP 52=true:=by kernel_rfl
theorem zrH:zp TP 53=true:=by kernel_rfl
theorem zCW:zp TP 54=true:=by kernel_rfl
theorem zzs:zp TP 56=true:=by kernel_rfl
theorem zCP:zp TP 57=true:=by kernel_rfl
theorem zsz:zp TP 58=true:=by kernel_rfl
theorem zt1:zp TP 59=true:=by kernel_rfl
theorem zv6:zp TP 60=true:=by kernel_rfl
theorem zCM:zp TP 61=true:=by kernel_rfl
theorem zvt:zp TP 62=true:=by kernel_rfl
theorem zCv:zp TP 63=true:=by kernel_rfl
theorem zDb:zp TP 64=true:=by kernel_rfl
theorem zC0:zp TP 65=true:=by kernel_rfl
theorem zCE:zp TP 66=true:=by kernel_rfl
theorem zDj:zp TP 67=true:=by kernel_rfl
theorem zCu:zp TP 68=true:=by kernel_rfl
theorem zv3:zp TP 69=true:=by kernel_rfl
theorem zzk:zp TP 70=true:=by kernel_rfl
theorem zDl:zp TP 71=true:=by kernel_rfl
theorem zz9:zp TP 72=true:=by kernel_rfl
theorem zf1:zp TP 73=true:=by kernel_rfl
theorem zu6:zp TP 74=true:=by kernel_rfl
theorem zkk:zp TP 75=true:=by kernel_rfl
theorem zu3:zp TP 76=true:=by kernel_rfl
theorem zBK:zp TP 77=true:=by kernel_rfl
theorem zzA:zp TP 78=true:=by kernel_rfl
theorem zif:zp TP 79=true:=by kernel_rfl
theorem zx1:zp TP 80=true:=by kernel_rfl
theorem zC4:zp TP 81=true:=by kernel_rfl
theorem zru:zp TP 82=true:=by kernel_rfl
theorem zu9:zp TP 83=true:=by kernel_rfl
theorem zDm:zp TP 84=true:=by kernel_rfl
theorem zDd:zp TP 85=true:=by kernel_rfl
theorem zCS:zp TP 86=true:=by kernel_rfl
theorem zCU:zp TP 87=true:=by kernel_rfl
theorem zCw:zp TP 88=true:=by kernel_rfl
theorem zyX:zp TP 89=true:=by kernel_rfl
theorem zAX:zp TP 90=true:=by kernel_rfl
theorem zzc:zp TP 91=true:=by kernel_rfl
theorem zAY:zp TP 93=true:=by kernel_rfl
theorem zy2:zp TP 94=true:=by kernel_rfl
theorem zCD:zp TP 95=true:=by kernel_rfl
theorem zC8:zp TP 96=true:=by kernel_rfl
theorem zsf:zp TP 97=true:=by kernel_rfl
theorem zCX:zp TP 98=true:=by kernel_rfl
theorem zCT:zp TP 99=true:=by kernel_rfl
theorem znE:zp TP 100=true:=by kernel_rfl
theorem zBn:zp TP 101=true:=by kernel_rfl
theorem zBG:zp TP 102=true:=by kernel_rfl
theorem zBA:zp TP 106=true:=by kernel_rfl
theorem zpg:zp TP 107=true:=by kernel_rfl
theorem zkx:zp TP 108=true:=by kernel_rfl
theorem zBa:zp TP 109=true:=by kernel_rfl
theorem zzi:zp TP 110=true:=by kernel_rfl
theorem zA7:zp TP 111=true:=by kernel_rfl
theorem zsl:zp TP 112=true:=by kernel_rfl
theorem zy5:zp TP 113=true:=by kernel_rfl
theorem zy7:zp TP 114=true:=by kernel_rfl
theorem zs2:zp TP 115=true:=by kernel_rfl
theorem zrG:zp TP 116=true:=by kernel_rfl
theorem zzC:zp TP 117=true:=by kernel_rfl
theorem zB3:zp TP 118=true:=by kernel_rfl
theorem zz2:zp TP 119=true:=by kernel_rfl
theorem zrU:zp TP 120=true:=by kernel_rfl
theorem zrF:zp TP 121=true:=by kernel_rfl
theorem zpr:zp TP 122=true:=by kernel_rfl
theorem zo5:zp TP 123=true:=by kernel_rfl
theorem zwW:zp TP 124=true:=by kernel_rfl
theorem zBk:zp TP 125=true:=by kernel_rfl
theorem zAd:zp TP 126=true:=by kernel_rfl
theorem zBJ:zp TP 127=true:=by kernel_rfl
theorem zAN:zp TP 128=true:=by kernel_rfl
theorem znc:zp TP 129=true:=by kernel_rfl
theorem zzf:zp TP 130=true:=by kernel_rfl
theorem zs6:zp TP 131=true:=by kernel_rfl
theorem zy6:zp TP 132=true:=by kernel_rfl
theorem zmC:zp TP 133=true:=by kernel_rfl
theorem zxe:zp TP 134=true:=by kernel_rfl
theorem zze:zp TP 135=true:=by kernel_rfl
theorem zAQ:zp TP 136=true:=by kernel_rfl
theorem zw9:zp TP 137=true:=by kernel_rfl
theorem znN:zp TP 138=true:=by kernel_rfl
theorem zB1:zp TP 139=true:=by kernel_rfl
theorem zwg:zp TP 140=true:=by kernel_rfl
theorem zwy:zp TP 141=true:=by kernel_rfl
theorem zwb:zp TP 142=true:=by kernel_rfl
theorem zAo:zp TP 143=true:=by kernel_rfl
theorem zrX:zp TP 144=true:=by kernel_rfl
theorem zz1:zp TP 146=true:=by kernel_rfl
theorem zBx:zp TP 151=true:=by kernel_rfl
theorem zBu:zp TP 153=true:=by kernel_rfl
theorem zp3:zp TP 154=true:=by kernel_rfl
theorem zAr:zp TP 157=true:=by kernel_rfl
theorem zkN:zp TP 158=true:=by kernel_rfl
theorem zBY:zp TP 163=true:=by kernel_rfl
theorem zAb:zp TP 164=true:=by kernel_rfl
theorem zwJ:zp TP 166=true:=by kernel_rfl
theorem ztS:zp TP 169=true:=by kernel_rfl
theorem zA9:zp TP 170=true:=by kernel_rfl
theorem zwB:zp TP 174=true:=by kernel_rfl
theorem zCr:zp TP 175=true:=by kernel_rfl
theorem zwM:zp TP 176=true:=by kernel_rfl
theorem zrL:zp TP 177=true:=by kernel_rfl
theorem zzo:zp TP 178=true:=by kernel_rfl
theorem zzO:zp TP 179=true:=by kernel_rfl
theorem zB8:zp TP 181=true:=by kernel_rfl
theorem zB7:zp TP 182=true:=by kernel_rfl
theorem zBZ:zp TP 183=true:=by kernel_rfl
theorem zAV:zp TP 184=true:=by kernel_rfl
theorem zAU:zp TP 185=true:=by kernel_rfl
theorem zAZ:zp TP 186=true:=by kernel_rfl
theorem zA3:zp TP 187=true:=by kernel_rfl
theorem zzY:zp TP 188=true:=by kernel_rfl
theorem zwk:zp TP 189=true:=by kernel_rfl
theorem zwo:zp TP 190=true:=by kernel_rfl
theorem zxj:zp TP 191=true:=by kernel_rfl
theorem zAw:zp TP 192=true:=by kernel_rfl
theorem zB2:zp TP 193=true:=by kernel_rfl
theorem zCs:zp TP 194=true:=by kernel_rfl
theorem zwR:zp TP 195=true:=by kernel_rfl
theorem zwL:zp TP 196=true:=by kernel_rfl
theorem zi9:zp TP 197=true:=by kernel_rfl
theorem zAB:zp TP 198=true:=by kernel_rfl
theorem zCa:zp TP 199=true:=by kernel_rfl
theorem zwj:zp TP 200=true:=by kernel_rfl
theorem zwF:zp TP 201=true:=by kernel_rfl
theorem zBw:zp TP 202=true:=by kernel_rfl
theorem zAS:zp TP 203=true:=by kernel_rfl
theorem zBm:zp TP 207=true:=by kernel_rfl
theorem zz7:zp TP 208=true:=by kernel_rfl
theorem zw7:zp TP 209=true:=by kernel_rfl
theorem zB6:zp TP 211=true:=by kernel_rfl
theorem zAa:zp TP 214=true:=by kernel_rfl
theorem zkC:zp TP 216=true:=by kernel_rfl
theorem zwE:zp TP 218=true:=by kernel_rfl
theorem zpl:zp TP 219=true:=by kernel_rfl
theorem zw1:zp TP 220=true:=by kernel_rfl
theorem zwH:zp TP 222=true:=by kernel_rfl
theorem zwZ:zp TP 223=true:=by kernel_rfl
theorem zB4:zp TP 224=true:=by kernel_rfl
theorem zzF:zp TP 225=true:=by kernel_rfl
theorem zAy:zp TP 226=true:=by kernel_rfl
theorem zBX:zp TP 227=true:=by kernel_rfl
theorem zBq:zp TP 228=true:=by kernel_rfl
theorem zz4:zp TP 229=true:=by kernel_rfl
theorem zxk:zp TP 230=true:=by kernel_rfl
theorem zxd:zp TP 231=true:=by kernel_rfl
theorem zBE:zp TP 232=true:=by kernel_rfl
theorem zA0:zp TP 234=true:=by kernel_rfl
theorem zwG:zp TP 235=true:=by kernel_rfl
theorem zxb:zp TP 241=true:=by kernel_rfl
theorem zwi:zp TP 245=true:=by kernel_rfl
theorem zsV:zp TP 246=true:=by kernel_rfl
theorem zBH:zp TP 247=true:=by kernel_rfl
theorem zAE:zp TP 248=true:=by kernel_rfl
theorem zwX:zp TP 249=true:=by kernel_rfl
theorem zCd:zp TP 250=true:=by kernel_rfl
theorem zwh:zp TP 251=true:=by kernel_rfl
theorem zkA:zp TP 252=true:=by kernel_rfl
theorem zAM:zp TP 254=true:=by kernel_rfl
theorem zAf:zp TP 255=true:=by kernel_rfl
theorem zAF:zp TP 256=true:=by kernel_rfl
theorem zBg:zp TP 257=true:=by kernel_rfl
theorem zCl:zp TP 259=true:=by kernel_rfl
theorem zzw:zp TP 260=true:=by kernel_rfl
theorem zCc:zp TP 262=true:=by kernel_rfl
theorem zBb:zp TP 265=true:=by kernel_rfl
theorem zBs:zp TP 267=true:=by kernel_rfl
theorem zAO:zp TP 270=true:=by kernel_rfl
theorem zB5:zp TP 273=true:=by kernel_rfl
theorem zBt:zp TP 276=true:=by kernel_rfl
theorem zzH:zp TP 278=true:=by kernel_rfl
theorem zAP:zp TP 280=true:=by kernel_rfl
theorem zwS:zp TP 281=true:=by kernel_rfl
theorem zA5:zp TP 282=true:=by kernel_rfl
theorem zAh:zp TP 286=true:=by kernel_rfl
theorem zBT:zp TP 289=true:=by kernel_rfl
theorem zCg:zp TP 291=true:=by kernel_rfl
theorem zws:zp TP 296=true:=by kernel_rfl
theorem zud:zp TP 297=true:=by kernel_rfl
theorem zpX:zp TP 298=true:=by kernel_rfl
theorem zzV:zp TP 299=true:=by kernel_rfl
theorem zB0:zp TP 300=true:=by kernel_rfl
theorem zw0:zp TP 301=true:=by kernel_rfl
theorem zwV:zp TP 302=true:=by kernel_rfl
theorem zAz:zp TP 303=true:=by kernel_rfl
theorem zzx:zp TP 304=true:=by kernel_rfl
theorem zAv:zp TP 306=true:=by kernel_rfl
theorem zAJ:zp TP 307=true:=by kernel_rfl
theorem zxm:zp TP 308=true:=by kernel_rfl
theorem zzg:zp TP 309=true:=by kernel_rfl
theorem zAW:zp TP 310=true:=by kernel_rfl
theorem zwA:zp TP 311=true:=by kernel_rfl
theorem zBN:zp TP 312=true:=by kernel_rfl
theorem zwa:zp TP 313=true:=by kernel_rfl
theorem zAG:zp TP 319=true:=by kernel_rfl
theorem zpM:zp TP 320=true:=by kernel_rfl
theorem zBy:zp TP 321=true:=by kernel_rfl
theorem zCq:zp TP 322=true:=by kernel_rfl
theorem zzu:zp TP 329=true:=by kernel_rfl
theorem zy8:zp TP 330=true:=by kernel_rfl
theorem zwc:zp TP 331=true:=by kernel_rfl
theorem zCj:zp TP 332=true:=by kernel_rfl
theorem zzj:zp TP 333=true:=by kernel_rfl
theorem zzJ:zp TP 334=true:=by kernel_rfl
theorem zzT:zp TP 335=true:=by kernel_rfl
theorem zwt:zp TP 338=true:=by kernel_rfl
theorem zzt:zp TP 339=true:=by kernel_rfl
theorem zBv:zp TP 340=true:=by kernel_rfl
theorem zzy:zp TP 341=true:=by kernel_rfl
theorem zBo:zp TP 342=true:=by kernel_rfl
theorem zzQ:zp TP 343=true:=by kernel_rfl
theorem zA2:zp TP 344=true:=by kernel_rfl
theorem zAi:zp TP 351=true:=by kernel_rfl
theorem zzU:zp TP 352=true:=by kernel_rfl
theorem zs8:zp TP 353=true:=by kernel_rfl
theorem zAK:zp TP 354=true:=by kernel_rfl
theorem zzD:zp TP 355=true:=by kernel_rfl
theorem zzp:zp TP 356=true:=by kernel_rfl
theorem zsO:zp TP 362=true:=by kernel_rfl
theorem zAu:zp TP 363=true:=by kernel_rfl
theorem zzB:zp TP 366=true:=by kernel_rfl
theorem zwp:zp TP 386=true:=by kernel_rfl
theorem zw4:zp TP 391=true:=by kernel_rfl
theorem zv9:zp TP 404=true:=by kernel_rfl
theorem bo4:zsw TP 4=true:=by kernel_rfl
theorem zp0:zsM TP 111 [0,0,0,1]=true:=by kernel_rfl
theorem zwv:zsM TP 114 [1,0,0,2]=true:=by kernel_rfl
theorem yp:zbk TP 35 0=some 0:=by kernel_rfl
theorem zbn:zbk TP 35 1=some 1:=by kernel_rfl
theorem zat:zbk TP 35 2=some 2:=by kernel_rfl
theorem zby:zbk TP 39 0=some 0:=by kernel_rfl
theorem ye:zbk TP 39 1=some 1:=by kernel_rfl
theorem za7:zbk TP 39 2=some 2:=by kernel_rfl
theorem y6:zbk TP 39 3=some 5:=by kernel_rfl
theorem zaS:zbk TP 39 4=some 6:=by kernel_rfl
theorem y8:zbk TP 39 5=some 7:=by kernel_rfl
theorem zaH:zbk TP 48 0=some 0:=by kernel_rfl
theorem zgW:zbk TP 67 0=some 0:=by kernel_rfl
theorem zay:zbk TP 67 1=some 3:=by kernel_rfl
theorem zbc:zbk TP 83 0=some 0:=by kernel_rfl
theorem zge:zbk TP 98 0=some 0:=by kernel_rfl
theorem zjM:zbk TP 98 1=some 1:=by kernel_rfl
theorem zal:zbk TP 111 0=some 0:=by kernel_rfl
theorem yx:zbk TP 111 1=some 1:=by kernel_rfl
theorem zaN:zbk TP 111 2=some 2:=by kernel_rfl
theorem zaD:zbk TP 111 3=some 3:=by kernel_rfl
theorem zbM:zbk TP 114 0=some 0:=by kernel_rfl
theorem zfw:zbk TP 114 1=some 1:=by kernel_rfl
theorem zbG:zbk TP 114 2=some 2:=by kernel_rfl
theorem zfv:zbk TP 114 3=some 3:=by kernel_rfl
theorem zgh:zbk TP 123 0=some 0:=by kernel_rfl
theorem zhv:zbk TP 123 1=some 1:=by kernel_rfl
theorem zdK:zbk TP 123 2=some 4:=by kernel_rfl
theorem zp1:zbk TP 126 0=some 0:=by kernel_rfl
theorem zi6:zbk TP 126 1=some 1:=by kernel_rfl
theorem zhi:zbk TP 137 0=some 0:=by kernel_rfl
theorem zuM:zbk TP 169 1=some 1:=by kernel_rfl
theorem zaq:zbk TP 178 0=some 0:=by kernel_rfl
theorem zvo:zbk TP 199 1=some 1:=by kernel_rfl
theorem zhL:zbk TP 215 0=some 0:=by kernel_rfl
theorem zhe:zbk TP 215 1=some 1:=by kernel_rfl
theorem zvm:zbk TP 303 0=some 0:=by kernel_rfl
theorem zaP:zbk TP 327 0=some 0:=by kernel_rfl
theorem zhw:zbk TP 333 0=some 0:=by kernel_rfl
theorem zp5:zbk TP 384 0=some 0:=by kernel_rfl
theorem zi3:zbk TP 384 1=some 1:=by kernel_rfl
theorem zux:zbk TP 410 1=some 1:=by kernel_rfl
theorem zuJ:zbk TP 412 0=some 0:=by kernel_rfl
theorem zpE:zbk TP 412 1=some 1:=by kernel_rfl
theorem zuF:zbk TP 412 2=some 2:=by kernel_rfl
theorem zuU:zrv TP 294 0=some (0,1,false):=by kernel_rfl
theorem zvz:zrv TP 294 1=some (1,1,false):=by kernel_rfl
theorem zul:zrv TP 310 0=some (0,1,false):=by kernel_rfl
theorem zAA:zmR TP 20=true:=by kernel_rfl
theorem zcy:zmR TP 87=true:=by kernel_rfl
theorem zng:zhk TP 260 169=some false:=by kernel_rfl
theorem zme:zhk TP 260 199=some false:=by kernel_rfl
theorem zmx:zhk TP 260 408=some false:=by kernel_rfl
theorem ziA:zhk TP 263 169=some true:=by kernel_rfl
theorem ziD:zhk TP 263 199=some true:=by kernel_rfl
theorem zoT:zhk TP 263 28=some false:=by kernel_rfl
theorem ziO:zhk TP 263 408=some true:=by kernel_rfl
theorem zoh:zhk TP 265 28=some false:=by kernel_rfl
theorem zml:zhk TP 393 169=some false:=by kernel_rfl
theorem zmP:zhk TP 393 199=some false:=by kernel_rfl
theorem zof:zhk TP 393 28=some false:=by kernel_rfl
theorem zm8:zhk TP 393 408=some false:=by kernel_rfl
theorem zeD:zdD TP 2 .i64=true:=by kernel_rfl
theorem zaw:zdD TP 3 .i64=true:=by kernel_rfl
theorem zaX:zdD TP 5 .u8=true:=by kernel_rfl
theorem znS:zdD TP 21 .i32=true:=by kernel_rfl
theorem zmH:zdD TP 28 .i64=true:=by kernel_rfl
theorem zbC:zdD TP 30 .i64=true:=by kernel_rfl
theorem zaT:zdD TP 108 .i64=true:=by kernel_rfl
theorem zbB:zdD TP 109 .u64=true:=by kernel_rfl
theorem zaI:zdD TP 112 .i64=true:=by kernel_rfl
theorem zdE:zdD TP 285 .u64=true:=by kernel_rfl
theorem zCA:zec TP 80=some (9,52):=by kernel_rfl
theorem zh7:zec TP 81=some (9,52):=by kernel_rfl
theorem zoO:zec TP 89=some (30,88):=by kernel_rfl
theorem zjy:zec TP 129=some (30,127):=by kernel_rfl
theorem ztp:zec TP 166=some (9,3):=by kernel_rfl
theorem zkw:zec TP 295=some (112,294):=by kernel_rfl
theorem ziH:zec TP 305=some (108,303):=by kernel_rfl
theorem zkZ:zec TP 311=some (108,310):=by kernel_rfl
theorem zgK:zec TP 413=some (112,412):=by kernel_rfl
theorem zdQ:zkm TP 28=true:=by kernel_rfl
theorem zBF:zkm TP 81=true:=by kernel_rfl
theorem zqj:zkm TP 140=true:=by kernel_rfl
theorem zmg:zkm TP 169=true:=by kernel_rfl
theorem zfF:zkm TP 199=true:=by kernel_rfl
theorem zmm:zkm TP 408=true:=by kernel_rfl
theorem zCC:zdB TP 35=some [(0,1),(1,1),(2,1)]:=by kernel_rfl
theorem zrj:zdB TP 39=some [(0,1),(1,1),(2,3),(5,1),(6,1),(7,1)]:=by kernel_rfl
theorem zCb:zdB TP 48=some [(0,1)]:=by kernel_rfl
theorem zzn:zdB TP 67=some [(0,3),(3,1)]:=by kernel_rfl
theorem zDk:zdB TP 83=some [(0,1)]:=by kernel_rfl
theorem zCz:zdB TP 98=some [(0,1),(1,4)]:=by kernel_rfl
theorem zjm:zdB TP 111=some [(0,1),(1,1),(2,1),(3,1)]:=by kernel_rfl
theorem zwQ:zdB TP 114=some [(0,1),(1,1),(2,1),(3,1)]:=by kernel_rfl
theorem zrA:zdB TP 123=some [(0,1),(1,3),(4,1)]:=by kernel_rfl
theorem zxg:zdB TP 126=some [(0,1),(1,1)]:=by kernel_rfl
theorem zqf:zdB TP 137=some [(0,1),(1,1),(2,1)]:=by kernel_rfl
theorem zmh:zdB TP 169=some [(0,1),(1,1)]:=by kernel_rfl
theorem zwf:zdB TP 178=some [(0,1)]:=by kernel_rfl
theorem zfz:zdB TP 199=some [(0,1),(1,1)]:=by kernel_rfl
theorem zwN:zdB TP 215=some [(0,1),(1,1)]:=by kernel_rfl
theorem zpn:zdB TP 294=some [(0,1),(1,1),(2,1)]:=by kernel_rfl
theorem znm:zdB TP 303=some [(0,1),(1,1)]:=by kernel_rfl
theorem znn:zdB TP 310=some [(0,1),(1,1)]:=by kernel_rfl
theorem zww:zdB TP 327=some [(0,3)]:=by kernel_rfl
theorem zBQ:zdB TP 333=some [(0,1)]:=by kernel_rfl
theorem zBS:zdB TP 384=some [(0,1),(1,1)]:=by kernel_rfl
theorem zm7:zdB TP 410=some [(0,1),(1,1)]:=by kernel_rfl
theorem zpj:zdB TP 412=some [(0,1),(1,1),(2,1)]:=by kernel_rfl
theorem zrk:zn7 TP 25=true:=by kernel_rfl
theorem znD:zn7 TP 52=true:=by kernel_rfl
theorem zkI:zn7 TP 120=true:=by kernel_rfl
theorem zgC:zbl TP 22=some 39:=by kernel_rfl
theorem zaJ:zbl TP 31=some 114:=by kernel_rfl
theorem zaE:zbl TP 32=some 3:=by kernel_rfl
theorem zbb:zbl TP 33=some 32:=by kernel_rfl
theorem yC:zbl TP 36=some 111:=by kernel_rfl
theorem zaA:zbl TP 37=some 78:=by kernel_rfl
theorem zcu:zbl TP 46=some 98:=by kernel_rfl
theorem zcF:zbl TP 65=some 36:=by kernel_rfl
theorem zeJ:zbl TP 105=some 9:=by kernel_rfl
theorem zeP:zbl TP 121=some 126:=by kernel_rfl
theorem zso:zbl TP 127=some 137:=by kernel_rfl
theorem ziy:zbl TP 172=some 176:=by kernel_rfl
theorem za9:zbl TP 173=some 176:=by kernel_rfl
theorem zjs:zbl TP 175=some 215:=by kernel_rfl
theorem yB:zbl TP 176=some 215:=by kernel_rfl
theorem y7:zbl TP 224=some 5:=by kernel_rfl
theorem zmi:zbl TP 286=some 2:=by kernel_rfl
theorem zm4:zbl TP 287=some 109:=by kernel_rfl
theorem zqn:zbl TP 331=some 5:=by kernel_rfl
theorem zxf:zbl TP 382=some 5:=by kernel_rfl
theorem zm3:zbl TP 399=some 33:=by kernel_rfl
theorem zn2:zbl TP 415=some 173:=by kernel_rfl
theorem st9:zil TP 9=true:=by kernel_rfl
theorem sz2:zam TP 2=some 1:=by kernel_rfl
theorem sz3:zam TP 3=some 1:=by kernel_rfl
theorem sz4:zam TP 4=some 1:=by kernel_rfl
theorem sz5:zam TP 5=some 1:=by kernel_rfl
theorem sz9:zam TP 9=some 1:=by kernel_rfl
theorem zn8:zam TP 28=some 1:=by kernel_rfl
theorem zgT:zam TP 32=some 1:=by kernel_rfl
theorem zyb:zam TP 33=some 1:=by kernel_rfl
theorem zbr:zam TP 35=some 3:=by kernel_rfl
theorem zeA:zam TP 36=some 1:=by kernel_rfl
theorem zDg:zam TP 37=some 1:=by kernel_rfl
theorem za2:zam TP 39=some 8:=by kernel_rfl
theorem yS:zam TP 48=some 1:=by kernel_rfl
theorem zvj:zam TP 52=some 1:=by kernel_rfl
theorem zCk:zam TP 65=some 1:=by kernel_rfl
theorem yM:zam TP 67=some 4:=by kernel_rfl
theorem zcg:zam TP 78=some 2:=by kernel_rfl
theorem zBe:zam TP 81=some 1:=by kernel_rfl
theorem zfK:zam TP 98=some 5:=by kernel_rfl
theorem zwU:zam TP 105=some 1:=by kernel_rfl
theorem zkv:zam TP 109=some 1:=by kernel_rfl
theorem yn:zam TP 111=some 4:=by kernel_rfl
theorem zab:zam TP 114=some 4:=by kernel_rfl
theorem zwr:zam TP 121=some 1:=by kernel_rfl
theorem zc0:zam TP 126=some 2:=by kernel_rfl
theorem zdO:zam TP 137=some 3:=by kernel_rfl
theorem zj6:zam TP 173=some 1:=by kernel_rfl
theorem zbV:zam TP 176=some 1:=by kernel_rfl
theorem zmc:zam TP 189=some 3:=by kernel_rfl
theorem zav:zam TP 215=some 2:=by kernel_rfl
theorem zrZ:zam TP 224=some 1:=by kernel_rfl
theorem ztV:zam TP 303=some 2:=by kernel_rfl
theorem zt8:zam TP 327=some 3:=by kernel_rfl
theorem zCn:zam TP 331=some 1:=by kernel_rfl
theorem zBr:zam TP 382=some 1:=by kernel_rfl
theorem zAC:zam TP 384=some 2:=by kernel_rfl
theorem zmE:zam TP 397=some 2:=by kernel_rfl
theorem zkU:zam TP 412=some 3:=by kernel_rfl
theorem zAt:zam TP 443=some 1:=by kernel_rfl
theorem zr2:zau TP 2=some (Ii 0):=by kernel_rfl
theorem zr3:zau TP 3=some (Ii 0):=by kernel_rfl
theorem zr4:zau TP 4=some (.bool false):=by kernel_rfl
theorem zr5:zau TP 5=some (.int .u8 0):=by kernel_rfl
theorem zr9:zau TP 9=some (.string ⟨#[]⟩):=by kernel_rfl
theorem zvq:zau TP 28=some (Ii 0):=by kernel_rfl
theorem zCY:zau TP 32=some (.slice none 0 0):=by kernel_rfl
theorem zCV:zau TP 33=some (.slice none 0 0):=by kernel_rfl
theorem zA6:zau TP 35=some (.agg #[.slice none 0 0,.slice none 0 0,.slice none 0 0]):=by kernel_rfl
theorem zAH:zau TP 36=some (.slice none 0 0):=by kernel_rfl
theorem zhV:zau TP 39=some (.agg #[Ii 0,.string ⟨#[]⟩,.slice none 0 0,.slice none 0 0,.slice none 0 0,.slice none 0 0,.slice none 0 0,.slice none 0 0]):=by kernel_rfl
theorem zhI:zau TP 48=some (.agg #[.slice none 0 0]):=by kernel_rfl
theorem znj:zau TP 52=some (.pointer none):=by kernel_rfl
theorem zgX:zau TP 67=some (.agg #[.slice none 0 0,.slice none 0 0,.slice none 0 0,.slice none 0 0]):=by kernel_rfl
theorem zoB:zau TP 78=some (.agg #[.string ⟨#[]⟩,.string ⟨#[]⟩]):=by kernel_rfl
theorem zCQ:zau TP 83=some (.agg #[.map none]):=by kernel_rfl
theorem zCJ:zau TP 88=some (.nilFunc):=by kernel_rfl
theorem zzm:zau TP 98=some (.agg #[.string ⟨#[]⟩,.slice none 0 0,.slice none 0 0,.slice none 0 0,.slice none 0 0]):=by kernel_rfl
theorem zAD:zau TP 105=some (.slice none 0 0):=by kernel_rfl
theorem zzX:zau TP 109=some (.int .u64 0):=by kernel_rfl
theorem zc3:zau TP 111=some (.agg #[Ii 0,Ii 0,.int .u64 0,.string ⟨#[]⟩]):=by kernel_rfl
theorem zk8:zau TP 114=some (.agg #[.string ⟨#[]⟩,Ii 0,Ii 0,.bool false]):=by kernel_rfl
theorem zr0:zau TP 123=some (.agg #[.pointer none,.slice none 0 0,.slice none 0 0,.slice none 0 0,.slice none 0 0]):=by kernel_rfl
theorem zkc:zau TP 126=some (.agg #[.slice none 0 0,.pointer none]):=by kernel_rfl
theorem zAn:zau TP 127=some (.slice none 0 0):=by kernel_rfl
theorem zfN:zau TP 137=some (.agg #[.nilFunc,.nilFunc,.nilFunc]):=by kernel_rfl
theorem zl9:zau TP 169=some (.agg #[.string ⟨#[]⟩,.nilIface]):=by kernel_rfl
theorem zwe:zau TP 173=some (.slice none 0 0):=by kernel_rfl
theorem zwn:zau TP 176=some (.slice none 0 0):=by kernel_rfl
theorem zwm:zau TP 178=some (.agg #[.slice none 0 0]):=by kernel_rfl
theorem zCp:zau TP 189=some (.agg #[.pointer none,.pointer none,.int .u64 0]):=by kernel_rfl
theorem zfD:zau TP 199=some (.agg #[.string ⟨#[]⟩,.nilIface]):=by kernel_rfl
theorem znC:zau TP 215=some (.agg #[.string ⟨#[]⟩,.string ⟨#[]⟩]):=by kernel_rfl
theorem zBL:zau TP 224=some (.slice none 0 0):=by kernel_rfl
theorem zsD:zau TP 260=some (.nilIface):=by kernel_rfl
theorem zjl:zau TP 263=some (.nilIface):=by kernel_rfl
theorem zzM:zau TP 265=some (.nilIface):=by kernel_rfl
theorem zk7:zau TP 294=some (.agg #[.nilFunc,.nilFunc,.nilFunc]):=by kernel_rfl
theorem zf7:zau TP 303=some (.agg #[.nilFunc,.nilFunc]):=by kernel_rfl
theorem zkM:zau TP 310=some (.agg #[.nilFunc,.nilFunc]):=by kernel_rfl
theorem zwO:zau TP 327=some (.agg #[.slice none 0 0,.slice none 0 0,.slice none 0 0]):=by kernel_rfl
theorem zzE:zau TP 333=some (.agg #[.slice none 0 0]):=by kernel_rfl
theorem zv8:zau TP 384=some (.agg #[.slice none 0 0,Ii 0]):=by kernel_rfl
theorem zpP:zau TP 393=some (.nilIface):=by kernel_rfl
theorem znf:zau TP 397=some (.agg #[.slice none 0 0,.slice none 0 0]):=by kernel_rfl
theorem znJ:zau TP 410=some (.agg #[.string ⟨#[]⟩,.nilIface]):=by kernel_rfl
theorem zd7:zau TP 412=some (.agg #[.nilFunc,Ii 0,.nilFunc]):=by kernel_rfl
theorem zzq:zau TP 426=some (.agg #[.int .u8 0,.int .u8 0,.int .u8 0,.int .u8 0,.int .u8 0,.int .u8 0,.int .u8 0,.int .u8 0,.int .u8 0]):=by kernel_rfl
theorem zAj:zau TP 443=some (.nilFunc):=by kernel_rfl
theorem zCy:App TP 22 39 8 168 (.agg #[Ii 0,.string ⟨#[]⟩,.slice none 0 0,.slice none 0 0,.slice none 0 0,.slice none 0 0,.slice none 0 0,.slice none 0 0]):=⟨zgC,za2,zhV,by as_aux_lemma=>kernel_rfl,rfl,by simp[Value.cells,Value.oneCell'],by decide⟩
theorem zC1:App TP 31 114 4 40 (.agg #[.string ⟨#[]⟩,Ii 0,Ii 0,.bool false]):=⟨zaJ,zab,zk8,by as_aux_lemma=>kernel_rfl,rfl,by simp[Value.cells,Value.oneCell'],by decide⟩
theorem zyI:App TP 32 3 1 8 (Ii 0):=⟨zaE,sz3,zr3,by as_aux_lemma=>kernel_rfl,rfl,by simp[Value.cells,Value.oneCell'],by decide⟩
theorem zrY:App TP 33 32 1 24 (.slice none 0 0):=⟨zbb,zgT,zCY,by as_aux_lemma=>kernel_rfl,rfl,by simp[Value.cells,Value.oneCell'],by decide⟩
theorem zjE:App TP 36 111 4 40 (.agg #[Ii 0,Ii 0,.int .u64 0,.string ⟨#[]⟩]):=⟨yC,yn,zc3,by as_aux_lemma=>kernel_rfl,rfl,by simp[Value.cells,Value.oneCell'],by decide⟩
theorem zBD:App TP 37 78 2 32 (.agg #[.string ⟨#[]⟩,.string ⟨#[]⟩]):=⟨zaA,zcg,zoB,by as_aux_lemma=>kernel_rfl,rfl,by simp[Value.cells,Value.oneCell'],by decide⟩
theorem zoK:App TP 46 98 5 112 (.agg #[.string ⟨#[]⟩,.slice none 0 0,.slice none 0 0,.slice none 0 0,.slice none 0 0]):=⟨zcu,zfK,zzm,by as_aux_lemma=>kernel_rfl,rfl,by simp[Value.cells,Value.oneCell'],by decide⟩
theorem zoU:App TP 65 36 1 24 (.slice none 0 0):=⟨zcF,zeA,zAH,by as_aux_lemma=>kernel_rfl,rfl,by simp[Value.cells,Value.oneCell'],by decide⟩
theorem zwP:App TP 105 9 1 16 (.string ⟨#[]⟩):=⟨zeJ,sz9,zr9,by as_aux_lemma=>kernel_rfl,rfl,by simp[Value.cells,Value.oneCell'],by decide⟩
theorem zp9:App TP 121 126 2 32 (.agg #[.slice none 0 0,.pointer none]):=⟨zeP,zc0,zkc,by as_aux_lemma=>kernel_rfl,rfl,by simp[Value.cells,Value.oneCell'],by decide⟩
theorem zkD:App TP 127 137 3 24 (.agg #[.nilFunc,.nilFunc,.nilFunc]):=⟨zso,zdO,zfN,by as_aux_lemma=>kernel_rfl,rfl,by simp[Value.cells,Value.oneCell'],by decide⟩
theorem ziG:App TP 172 176 1 24 (.slice none 0 0):=⟨ziy,zbV,zwn,by as_aux_lemma=>kernel_rfl,rfl,by simp[Value.cells,Value.oneCell'],by decide⟩
theorem zmK:App TP 173 176 1 24 (.slice none 0 0):=⟨za9,zbV,zwn,by as_aux_lemma=>kernel_rfl,rfl,by simp[Value.cells,Value.oneCell'],by decide⟩
theorem zBM:App TP 175 215 2 32 (.agg #[.string ⟨#[]⟩,.string ⟨#[]⟩]):=⟨zjs,zav,znC,by as_aux_lemma=>kernel_rfl,rfl,by simp[Value.cells,Value.oneCell'],by decide⟩
theorem ziP:App TP 176 215 2 32 (.agg #[.string ⟨#[]⟩,.string ⟨#[]⟩]):=⟨yB,zav,znC,by as_aux_lemma=>kernel_rfl,rfl,by simp[Value.cells,Value.oneCell'],by decide⟩
theorem zbf:App TP 224 5 1 1 (.int .u8 0):=⟨y7,sz5,zr5,by as_aux_lemma=>kernel_rfl,rfl,by simp[Value.cells,Value.oneCell'],by decide⟩
theorem zpc:App TP 286 2 1 8 (Ii 0):=⟨zmi,sz2,zr2,by as_aux_lemma=>kernel_rfl,rfl,by simp[Value.cells,Value.oneCell'],by decide⟩
theorem zpf:App TP 287 109 1 8 (.int .u64 0):=⟨zm4,zkv,zzX,by as_aux_lemma=>kernel_rfl,rfl,by simp[Value.cells,Value.oneCell'],by decide⟩
theorem zz8:App TP 399 33 1 24 (.slice none 0 0):=⟨zm3,zyb,zCV,by as_aux_lemma=>kernel_rfl,rfl,by simp[Value.cells,Value.oneCell'],by decide⟩
theorem zBB:App TP 415 173 1 24 (.slice none 0 0):=⟨zn2,zj6,zwe,by as_aux_lemma=>kernel_rfl,rfl,by simp[Value.cells,Value.oneCell'],by decide⟩
theorem mix:Tryz.prog.follows .mixedOrders=true:=by kernel_rfl
set_option maxRecDepth 10000
theorem zBC:zfI TP 336=some Extern.BytealgCompare.compare:=by kernel_rfl
theorem znt(s u:By)(w:Wl):(Extern.BytealgCompare.compare #[.string s,.string u]).run TP w=.ok (Ii (zin s u)) w:=by
 change Sem.run TP (do pure (goInt (Extern.BytealgCompare.cmp (←Extern.Bytes.bytesOf (.string s)) (←Extern.Bytes.bytesOf (.string u))))) w=_
 simp[Extern.Bytes.bytesOf,goInt,zin]
theorem f58(s u:By)(w:Wl):zV TP 312 #[.string s,.string u] w fun v w'=>v=Ii (zin s u)∧w'=w:=by
 refine zV.of_W (args:=[.string s,.string u]) Tryz.func312 U U U U ?_
 refine Sr (Oa U (E2 0 1 U (Sr (Om U (Om U ?_)))))
 refine Oq (zc9 (P:=TP) (n:=Tryz.f312.ntmps) zBC U U (znt _ _ _) U ?_)
 refine Oa U (E1 4 U (zk ?_))
 refine zy U U ?_
 exact⟨U,U⟩
theorem f52(s u:By)(w:Wl):zV TP 231 #[.string s,.string u] w fun v w'=>v=Ii (zin s u)∧w'=w:=by
 refine zV.of_W (args:=[.string s,.string u]) Tryz.func231 U U U U ?_
 refine Sr (Oa U (E2 0 1 U (Sr (Om U (Om U ?_)))))
 refine Oc zBN U U U (f58 _ _ _) ?_
 rintro v7 w7⟨rfl,rfl⟩
 refine Oa U (E1 4 U (zk ?_))
 refine zy U U ?_
 exact⟨U,U⟩
abbrev Ent:=By×By
abbrev LE:=List (List Ent)
def flat(es:List Ent):List Va:=es.flatMap fun x=>[.string x.1,.string x.2]
theorem zek(x:Ent)(es:List Ent):flat (x::es)=.string x.1 :: .string x.2::flat es:=rfl
theorem zdR(a b:List Ent):flat (a++b)=flat a++flat b:=by simp[flat]
theorem zfV(es:List Ent):(flat es).length=es.length*2:=by
 induction es with
 |nil=>rfl
 |cons x es ih=>rw[zek];simp only[List.length_cons,ih];omega
theorem zgA(es:List Ent)(i:Nat):flat (es.drop i)=(flat es).drop (i*2):=by
 induction es generalizing i with
 |nil=>simp[flat]
 |cons x es ih=>
  cases i with
  |zero=>simp
  |succ i=>rw[List.drop_succ_cons,ih,zek,show (i+1)*2=(i*2)+1+1 by omega];rfl
theorem zhY(es:List Ent)(i:Nat):flat (es.take i)=(flat es).take (i*2):=by
 induction es generalizing i with
 |nil=>simp[flat]
 |cons x es ih=>
  cases i with
  |zero=>simp[flat]
  |succ i=>rw[List.take_succ_cons,zek,ih,zek,show (i+1)*2=(i*2)+1+1 by omega];rfl
theorem zmb(es:List Ent):∀u∈flat es,u.oneCell'=true:=by
 intro u hu
 simp only[flat,List.mem_flatMap]at hu
 obtain⟨x,_,hu⟩:=hu
 simp at hu
 rcases hu with rfl|rfl<;>rfl
theorem zuH{es:List Ent}{i:Nat}{x:Ent}(h:es[i]? = some x):((flat es).drop (i*2)).take 2=[.string x.1,.string x.2]:=by
 rw[←zgA]
 have:es.drop i=x::es.drop (i+1):=by
  rw[List.getElem?_eq_some_iff]at h
  obtain⟨hl,rfl⟩:=h
  exact List.drop_eq_getElem_cons hl
 rw[this,zek]
 rfl
def yF(w:Wl)(v:Va)(es:List Ent):Prop:=zB w 215 2 v es.length (flat es)
theorem yF.chg{S:List Nat}{w w':Wl}{v:Va}{es:List Ent}(h:yF w v es)(hc:zl S w w')(hb:∀b∈zv v,b∉S):yF w' v es:=zB.chg h hc hb
theorem yF.chg0{w w':Wl}{v:Va}{es:List Ent}(h:yF w v es)(hc:zl [] w w'):yF w' v es:=zB.chg0 h hc
theorem yF.at'{w:Wl}{v:Va}{es:List Ent}(h:yF w v es){i:Nat}{x:Ent}(hx:es[i]? = some x):∃b off cap,v=.slice (some ⟨b,off,none⟩) es.length cap∧zw w b (off+i*2) [.string x.1,.string x.2]:=by
 have hi:i<es.length:=(Gs hx).1
 obtain⟨b,off,cap,hv,hc⟩:=zB.atk h hi
 rw[zuH hx]at hc
 exact⟨b,off,cap,hv,hc⟩
theorem f41(k x:By)(w:Wl):zV TP 185 #[.agg #[.string k,.string x]] w fun r w'=>r=.string k∧zl [] w w':=by
 refine zV.of_W (args:=[.agg #[.string k,.string x]]) Tryz.func185 U U U U ?_
 refine Sr ?_
 refine Ob U U ?_
 intro b1 w1 e1 n1 c1 k1
 refine Oa U (E1 1 U (Sr (Od zhL U (Ol yK U (k1.cell' U) (Oa U (E1 2 U (zk ?_)))))))
 refine zy U U ?_
 exact⟨U,c1⟩
theorem f49(v:Va)(k x:By)(es:List Ent)(w:Wl)(h:yF w v ((k,x)::es)):zV TP 228 #[v] w fun r w'=>r=.string k∧w'=w:=by
 obtain⟨b,off,cap,rfl,hc⟩:=h.at' (i:=0) rfl
 refine A1 Tryz.func228 U U ?_
 refine Sr (Oa U (E1 0 U (Sr (Om U ?_))))
 refine Og (zi yB zav U U 0 U (by simp)) U ?_
 refine Od zhL U ?_
 refine Ol yK U (hc 0 _ U) ?_
 refine Oa U (E1 2 U (zk ?_))
 refine zy U U ?_
 exact⟨U,U⟩
theorem f51(k x key:By)(b:Nat)(w:Wl)(hb:zQ w b 277 [.func (.func 185) #[] #[]]):zV TP 230 #[.agg #[.string k,.string x],.string key,Pt b] w fun r w'=>r=Ii (zin k key)∧zl [] w w':=by
 refine A3 Tryz.func230 U U ?_
 refine Sr ?_
 refine Ob U U ?_
 intro b3 w3 e3 n3 c3 k3
 refine Oa U (E3 1 2 3 U (Sr (Ol zCh U ((hb.chg0 c3).cell' U) (Og (zh zqp zav U U (zw.of_blk0 k3)) U ?_))))
 refine Oc zAU U U U (f41 k x _) ?_
 rintro v8 w8⟨rfl,c8⟩
 refine Om U ?_
 refine Oc zxd U U U (f52 _ _ _) ?_
 rintro v10 w10⟨rfl,rfl⟩
 refine Oa U (E1 5 U (zk ?_))
 refine zy U U ?_
 exact⟨U,c3.trans c8⟩
theorem f57(v:Va)(k x key:By)(es:List Ent)(b:Nat)(w:Wl)(hl:yF w v ((k,x)::es))(hb:zQ w b 347 [.func (.func 228) #[] #[]]):zV TP 311 #[v,.string key,Pt b] w fun r w'=>r=Ii (zin k key)∧w'=w:=by
 refine A3 Tryz.func311 U U ?_
 refine Sr (Oa U (E3 0 1 2 U (Sr (Ol zzN U (hb.cell' U) (Om U ?_)))))
 refine Oc zBq U U U (f49 _ _ _ _ _ hl) ?_
 rintro v8 w8⟨rfl,rfl⟩
 refine Om U ?_
 refine Oc zxd U U U (f52 _ _ _) ?_
 rintro v10 w10⟨rfl,rfl⟩
 refine Oa U (E1 5 U (zk ?_))
 refine zy U U ?_
 exact⟨U,U⟩
def zoV(ks:List By)(key:By)(i:Nat):Prop:=i≤ks.length∧∀j k,ks[j]? = some k→(blt k key=true↔j<i)
def zqS(ks:List By)(key:By):Prop:=∀(i j:Nat) (a b:By),i≤j→ks[i]? = some a→ks[j]? = some b→blt b key=true→blt a key=true
def zcd(ks:List By)(key:By)(lo hi:Nat):Prop:=lo≤hi∧hi≤ks.length∧(∀(j:Nat) (k:By),j<lo→ks[j]? = some k→blt k key=true)∧(∀(j:Nat) (k:By),hi≤j→ks[j]? = some k→blt k key=false)
def zcI(ks:List By)(key:By)(i:Nat):Bool:=match ks[i]? with|some k=>decide (k=key)|none=>false
theorem zcd.start(ks:List By)(key:By):zcd ks key 0 ks.length:=
 ⟨Nat.zero_le _,Nat.le_refl _,fun j k h=>by omega,fun j k h hk=>by simp[List.getElem?_eq_none h]at hk⟩
theorem zcd.low{ks:List By}{key k:By}{lo hi h:Nat}(hb:zcd ks key lo hi)(hm:zqS ks key)(h1:lo≤h)(h2:h<hi)(hk:ks[h]? = some k)(hlt:blt k key=true):zcd ks key (h+1) hi:=
 ⟨by omega,hb.2.1,fun j a hj ha=>hm j h a k (by omega) ha hk hlt,hb.2.2.2⟩
theorem zcd.high{ks:List By}{key k:By}{lo hi h:Nat}(hb:zcd ks key lo hi)(hm:zqS ks key)(h1:lo≤h)(h2:h<hi)(hk:ks[h]? = some k)(hlt:blt k key=false):zcd ks key lo h:=
 ⟨h1,by have:=hb.2.1;omega,hb.2.2.1,fun j a hj ha=>by
  cases hx:blt a key with
  |false=>rfl
  |true=>rw[hm h j k a hj hk ha hx]at hlt;cases hlt⟩
theorem zcd.done{ks:List By}{key:By}{lo hi:Nat}(hb:zcd ks key lo hi)(he:hi≤lo):zoV ks key lo:=by
 have:lo=hi:=by have:=hb.1;omega
 subst this
 refine⟨hb.2.1,fun j k hk=>⟨fun h=>?_,fun h=>hb.2.2.1 j k h hk⟩⟩
 rcases Nat.lt_or_ge j lo with h'|h'
 ·exact h'
 rw[hb.2.2.2 j k h' hk]at h;cases h
theorem zpt{lo hi:Nat}(h:lo<hi):lo≤(lo+hi) / 2∧(lo+hi) / 2<hi:=by omega
theorem f50(v:Va)(es:List Ent)(key:By)(b:Nat)(w:Wl)(hl:yF w v es)(hn:es.length≤4611686018427387903)(hb:zQ w b 277 [.func (.func 185) #[] #[]])(hm:zqS (es.map (·.1)) key) :
 zV TP 229 #[v,.string key,.func (.func 230) #[] #[Pt b]] w fun r w'=>∃i:Nat,r=.tuple #[Ii i,.bool (zcI (es.map (·.1)) key i)]∧zoV (es.map (·.1)) key i∧zl [] w w':=by
 obtain⟨p,c,rfl,_⟩:=hl.val
 refine A3 Tryz.func229 U U ?_
 refine Sr (Oa U (Oa U (E3 0 1 2 U (Sr (Om U (On zjs U (Oa U (E4 0 1 2 8 U (Sr (Om U (Oa U (Oa U ?_))))))))))))
 refine E6 0 1 2 8 9 10 U (zf (zq ?_))
 refine zT [0,1,2,8,9,10] (fun m F wx=>∃lo hi:Nat,m=hi-lo∧F=[(0,.slice p es.length c),(1,.string key),(2,.func (.func 230) #[] #[Pt b]),(8,Ii es.length),(9,Ii lo),(10,Ii hi)]∧zcd (es.map (·.1)) key lo hi∧zl [] w wx) (m:=es.length-0) ⟨0,es.length,rfl,rfl,by simpa using zcd.start (es.map (·.1)) key,zl.refl _ _⟩ ?_
 rintro m F wx⟨lo,hi,rfl,rfl,hbt,hcx⟩
 have hle:=hbt.2.1
 rw[List.length_map]at hle
 refine zf (Sr (Om U (Om U (Og (zz U U) U (E7 0 1 2 8 9 10 17 U ?_)))))
 refine zR U (fun hT=>?_) (fun hF=>?_)
 ·refine zn ?_
  have hlt:lo<hi:=by simpa using hT
  have hh:=zpt hlt
  have hk:es[(lo+hi) / 2]? = some es[(lo+hi) / 2]:=by simp
  have hlw:=hl.chg0 hcx
  obtain⟨bb,off,cap,hv,hcs⟩:=hlw.at' hk
  cases hv
  refine zq (Sr (Om U (Om U ?_)))
  refine Og (zI U U (by omega)) U ?_
  refine Og (yl zdE zaw U (show IntKind.u64.wrap ((lo:Int)+(hi:Int))=((lo+hi:Nat):Int) from by rw[IntWalk.u64_in _ ⟨by omega,by omega⟩];omega)) U ?_
  refine Og (zct 1 U U (by omega) (by decide) (show ((lo+hi:Nat):Int).fdiv 2=(((lo+hi) / 2:Nat):Int) from by rw[Int.fdiv_eq_ediv_of_nonneg _ (by omega)];omega)) U ?_
  refine Og (yl zaw zdE U (show IntKind.i64.wrap (((lo+hi) / 2:Nat):Int)=(((lo+hi) / 2:Nat):Int) from IntWalk.i64_in _ ⟨by omega,by omega⟩)) U ?_
  refine Oa U (E7 0 1 2 8 9 10 11 U (Sr (Om U (Om U (Om U ?_)))))
  refine Og (zi zjs zav U U _ U (by omega)) U ?_
  refine Og (zh zqp zav U U hcs) U (Om U ?_)
  refine Oc zxk U U U (f51 _ _ key b _ (hb.chg0 hcx)) ?_
  rintro v30 w30⟨rfl,c30⟩
  refine Og (zz U U) U (E8 0 1 2 8 9 10 11 31 U ?_)
  have hkm:(es.map (·.1))[(lo+hi) / 2]? = some es[(lo+hi) / 2].1:=by rw[List.getElem?_map,hk];rfl
  refine zR U (fun hT=>?_) (fun hF=>?_)
  ·have hlt2:=(ziX _ _).1 (of_decide_eq_true hT)
   refine za (Om U ?_)
   refine Og (zI U U (by omega)) U ?_
   refine Oa U (N6 0 1 2 8 9 10 U ?_)
   refine⟨hi-((lo+hi) / 2+1),by omega,(lo+hi) / 2+1,hi,rfl,rfl,hbt.low hm hh.1 hh.2 hkm hlt2,hcx.trans c30⟩
  have hlt2:blt es[(lo+hi) / 2].1 key=false:=by
   cases hx:blt es[(lo+hi) / 2].1 key with
   |false=>rfl
   |true=>have:=(ziX _ _).2 hx;simp at hF;omega
  refine za (Om U (Oa U (N6 0 1 2 8 9 10 U ?_)))
  refine⟨(lo+hi) / 2-lo,by omega,lo,(lo+hi) / 2,rfl,rfl,hbt.high hm hh.1 hh.2 hkm hlt2,hcx.trans c30⟩
 refine zJ ?_
 repeat first|refine te ?_|refine bo rfl ?_
 refine zt _ ?_
 have hge:hi≤lo:=by simpa using hF
 have hlb:=hbt.done hge
 refine zf ?_
 by_cases hlt:lo<es.length
 ·have hk:es[lo]? = some es[lo]:=by simp
  have hlw:=hl.chg0 hcx
  obtain⟨bb,off,cap,hv,hcs⟩:=hlw.at' hk
  cases hv
  have hhas:zcI (es.map (·.1)) key lo=decide (zin es[lo].1 key=0):=by
   simp only[zcI,List.getElem?_map,hk,Option.map_some]
   exact decide_eq_decide.2 (zpD _ _).symm
  refine za (Om U (Om U (Om U ?_)))
  refine Og (vt (zz U U) (by simpa using hlt)) U ?_
  refine Om U (Oj U U (Oj U U (Oj U U ?_)))
  refine Oy U U (zi zjs zav U U _ U hlt) ?_
  refine Oy U U (zh zqp zav U U hcs) (Oj U U ?_)
  refine Ow U U zxk U U U (f51 _ _ key b _ (hb.chg0 hcx)) ?_
  rintro v46 w46⟨rfl,c46⟩
  refine Oy U U (zxl (zx U U) hhas.symm) (Ot U (Oa U (Oa U (E2 6 7 U (zk ?_)))))
  refine zcw U U U ?_
  exact⟨lo,U,hlb,hcx.trans c46⟩
 have hhas:zcI (es.map (·.1)) key lo=false:=by
  simp only[zcI,List.getElem?_map,List.getElem?_eq_none (Nat.not_lt.1 hlt),Option.map_none]
 refine za (Om U (Om U (Om U ?_)))
 refine Og (vf (zz U U) (by simpa using hlt)) U ?_
 refine Om U ?_
 iterate 8 refine zem U U U U U U ?_
 refine Of U (Oa U (Oa U (E2 6 7 U (zk ?_))))
 refine zcw U U U ?_
 exact⟨lo,by rw[hhas],hlb,hcx⟩
def yO(l:List Ent):By:=match l with|x::_=>x.1|[]=>⟨#[]⟩
def lbN(l:List Ent)(key:By):Nat:=(l.takeWhile fun x=>blt x.1 key).length
def zev(l:List Ent)(key:By):Bool:=zcI (l.map (·.1)) key (lbN l key)
def yN(ls:LE)(key:By):Nat:=(ls.takeWhile fun l => !blt key (yO l)).length
def Srt(l:List Ent):Prop:=l.Pairwise fun a b=>blt a.1 b.1=true
theorem zcJ{α:Type}(p:α→Bool):∀(l:List α) (i:Nat),i≤l.length→(∀j k,l[j]? = some k→(p k=true↔j<i))→(l.takeWhile p).length=i
 |[],i,h,_=>by simp at h;simp[h]
 |x::l,i,h,hp=>by
  have h0:=hp 0 x rfl
  cases i with
  |zero=>
   have:p x=false:=by
    cases hx:p x with
    |false=>rfl
    |true=>have:=h0.1 hx;omega
   simp[List.takeWhile,this]
  |succ i=>
   have:p x=true:=h0.2 (by omega)
   have ih:=zcJ p l i (by simpa using h) (fun j k hk=>by
    have:=hp (j+1) k (by simpa using hk)
    rw[this];omega)
   simp[List.takeWhile,this,ih]
theorem zoV.eq{l:List Ent}{key:By}{i:Nat}(h:zoV (l.map (·.1)) key i):i=lbN l key:=by
 refine(zcJ _ l i (by simpa using h.1) (fun j k hk=>?_)).symm
 exact h.2 j k.1 (by rw[List.getElem?_map,hk];rfl)
theorem Srt.at{l:List Ent}(h:Srt l){i j:Nat}{a b:Ent}(hij:i<j)(ha:l[i]? = some a)(hb:l[j]? = some b):blt a.1 b.1=true:=by
 obtain⟨h1,rfl⟩:=Gs ha
 obtain⟨h2,rfl⟩:=Gs hb
 exact List.pairwise_iff_getElem.1 h i j h1 h2 hij
theorem Srt.mono{l:List Ent}(h:Srt l)(key:By):zqS (l.map (·.1)) key:=by
 intro i j a b hij ha hb hlt
 rw[List.getElem?_map]at ha hb
 cases hx:l[i]? with
 |none=>simp[hx]at ha
 |some x=>
  cases hy:l[j]? with
  |none=>simp[hy]at hb
  |some y=>
   simp[hx]at ha;simp[hy]at hb
   subst ha hb
   rcases Nat.lt_or_ge i j with h'|h'
   ·exact zdy (h.at h' hx hy) hlt
   have:i=j:=by omega
   subst this
   rw[hx]at hy
   simp at hy
   subst hy
   exact hlt
def zkr(ls:LE):Prop:=ls.Pairwise fun a b=>blt (yO a) (yO b)=true
theorem zkr.at{ls:LE}(h:zkr ls){i j:Nat}{a b:List Ent}(hij:i<j)(ha:ls[i]? = some a)(hb:ls[j]? = some b):blt (yO a) (yO b)=true:=by
 obtain⟨h1,rfl⟩:=Gs ha
 obtain⟨h2,rfl⟩:=Gs hb
 exact List.pairwise_iff_getElem.1 h i j h1 h2 hij
theorem zkr.mono{ls:LE}(h:zkr ls)(key:By):zqS (ls.map yO) key:=by
 intro i j a b hij ha hb hlt
 rw[List.getElem?_map]at ha hb
 cases hx:ls[i]? with
 |none=>simp[hx]at ha
 |some x=>
  cases hy:ls[j]? with
  |none=>simp[hy]at hb
  |some y=>
   simp[hx]at ha;simp[hy]at hb
   subst ha hb
   rcases Nat.lt_or_ge i j with h'|h'
   ·exact zdy (h.at h' hx hy) hlt
   have:i=j:=by omega
   subst this
   rw[hx]at hy
   simp at hy
   subst hy
   exact hlt
theorem zvN{ls:LE}{key:By}{i:Nat}(hs:zkr ls)(h:zoV (ls.map yO) key i):(yN ls key-1:Nat)=(if zcI (ls.map yO) key i then i else i-1):=by
 have hle:i≤ls.length:=by simpa using h.1
 have key1:∀j k,ls[j]? = some k→j<i→blt key (yO k)=false:=fun j k hk hj=>
  zdA ((h.2 j (yO k) (by rw[List.getElem?_map,hk];rfl)).2 hj)
 have key2:∀j k,ls[j]? = some k→i≤j→blt (yO k) key=false:=fun j k hk hj=>by
  cases hx:blt (yO k) key with
  |false=>rfl
  |true=>have:=(h.2 j (yO k) (by rw[List.getElem?_map,hk];rfl)).1 hx;omega
 by_cases hh:zcI (ls.map yO) key i=true
 ·rw[if_pos hh]
  unfold zcI at hh
  rw[List.getElem?_map]at hh
  cases hx:ls[i]? with
  |none=>simp[hx]at hh
  |some x=>
   simp[hx]at hh
   have hil:=(Gs hx).1
   have:yN ls key=i+1:=by
    refine zcJ _ ls (i+1) (by omega) (fun j k hk=>?_)
    rw[Bool.not_eq_true']
    constructor
    ·intro h1
     rcases Nat.lt_or_ge j (i+1) with h'|h'
     ·exact h'
     have:=hs.at (show i<j by omega) hx hk
     rw[hh,h1]at this;cases this
    intro h1
    rcases Nat.lt_or_ge j i with h'|h'
    ·exact key1 j k hk h'
    have:j=i:=by omega
    subst this
    rw[hx]at hk;simp at hk;subst hk
    rw[hh];exact zaF _
   rw[this];simp
 rw[if_neg hh]
 have:yN ls key=i:=by
  refine zcJ _ ls i hle (fun j k hk=>?_)
  rw[Bool.not_eq_true']
  constructor
  ·intro h1
   rcases Nat.lt_or_ge j i with h'|h'
   ·exact h'
   exfalso
   have h2:=key2 j k hk h'
   have he:=zfd h2 h1
   rcases Nat.lt_or_ge i j with h3|h3
   ·have hil:i<ls.length:=by have:=(Gs hk).1;omega
    have hx:ls[i]? = some ls[i]:=by simp[hil]
    have h4:=hs.at h3 hx hk
    rw[he]at h4
    rw[key2 i _ hx (Nat.le_refl _)]at h4;cases h4
   have:j=i:=by omega
   subst this
   apply hh
   unfold zcI
   rw[List.getElem?_map,hk]
   simp[he]
  intro h1;exact key1 j k hk h1
 rw[this]
def zbR(w:Wl):List Va→LE→Prop
 |[],[]=>True
 |v::vs,l::ls=>yF w v l∧zbR w vs ls
 |_,_=>False
theorem zbR.at{w:Wl}:∀{vs:List Va} {ls:LE} {i:Nat} {l:List Ent},zbR w vs ls→ls[i]? = some l→∃v,vs[i]? = some v∧yF w v l
 |[],[],_,_,_,h=>by simp at h
 |v::vs,l::ls,0,l',h,hi=>by simp at hi;subst hi;exact⟨v,rfl,h.1⟩
 |v::vs,l::ls,i+1,l',h,hi=>by simpa using h.2.at (by simpa using hi)
theorem zbR.append{w:Wl}:∀{vs us:List Va} {ls ms:LE},zbR w vs ls→zbR w us ms→zbR w (vs++us) (ls++ms)
 |[],_,[],_,_,h=>h
 |_::_,_,_::_,_,h,h'=>⟨h.1,h.2.append h'⟩
theorem zbR.take{w:Wl}:∀{vs:List Va} {ls:LE} (i:Nat),zbR w vs ls→zbR w (vs.take i) (ls.take i)
 |_,_,0,_=>by simp[zbR]
 |[],[],_+1,_=>by simp[zbR]
 |_::_,_::_,i+1,h=>⟨h.1,h.2.take i⟩
theorem zbR.drop{w:Wl}:∀{vs:List Va} {ls:LE} (i:Nat),zbR w vs ls→zbR w (vs.drop i) (ls.drop i)
 |_,_,0,h=>h
 |[],[],_+1,_=>by simp[zbR]
 |_::_,_::_,i+1,h=>by simpa using h.2.drop i
theorem zbR.chg{S:List Nat}{w w':Wl}(hc:zl S w w'):∀{vs:List Va} {ls:LE},(∀v∈vs,∀b∈zv v,b∉S)→zbR w vs ls→zbR w' vs ls
 |[],[],_,_=>trivial
 |v::vs,l::ls,hb,h=>⟨h.1.chg hc (hb v (by simp)),zbR.chg hc (fun u hu=>hb u (by simp[hu])) h.2⟩
theorem zbR.apart{w:Wl}{b:Nat}{e:TypeId}{c:List Va}(hb:zQ w b e c)(hne:Nat.beq 215 e=false):∀{vs:List Va} {ls:LE},zbR w vs ls→∀v∈vs,∀x∈zv v,x∉[b]
 |[],[],_,v,hv=>by simp at hv
 |v::vs,l::ls,h,u,hu=>by
  rcases List.mem_cons.1 hu with rfl|hu
  ·exact zB.apart h.1 hb hne
  exact zbR.apart hb hne h.2 u hu
def yJ(w:Wl)(v:Va)(ls:LE):Prop:=∃vs,zB w 176 1 v ls.length vs∧zbR w vs ls
theorem yJ.chg0{w w':Wl}{v:Va}{ls:LE}(h:yJ w v ls)(hc:zl [] w w'):yJ w' v ls:=
 let ⟨vs,h1,h2⟩:=h; ⟨vs,h1.chg0 hc,h2.chg hc (by simp)⟩
theorem yJ.chg1{w w':Wl}{v:Va}{ls:LE}(h:yJ w v ls){b:Nat}{e:TypeId}{c:List Va}(hb:zQ w b e c)(h1:Nat.beq 176 e=false)(h2:Nat.beq 215 e=false)(hc:zl [b] w w'):yJ w' v ls:=
 let ⟨vs,g1,g2⟩:=h; ⟨vs,g1.chg hc (g1.apart hb h1),g2.chg hc (g2.apart hb h2)⟩
theorem yJ.at{w:Wl}{v:Va}{ls:LE}(h:yJ w v ls){i:Nat}{l:List Ent}(hi:ls[i]? = some l):∃b off cap u,v=.slice (some ⟨b,off,none⟩) ls.length cap∧w.cell? ⟨b,off+i*1,none⟩=some u∧yF w u l:=by
 obtain⟨vs,h1,h2⟩:=h
 obtain⟨b,off,cap,u,hv,hu,hc⟩:=h1.at1 (Gs hi).1
 obtain⟨u',hu',hl⟩:=h2.at hi
 rw[hu]at hu'
 simp at hu'
 subst hu'
 exact⟨b,off,cap,u,hv,hc,hl⟩
theorem f56(v:Va)(ls:LE)(key:By)(b:Nat)(w:Wl)(hl:yJ w v ls)(hne:∀l∈ls,l≠[])(hn:ls.length≤4611686018427387903)(hb:zQ w b 347 [.func (.func 228) #[] #[]])(hm:zqS (ls.map yO) key) :
 zV TP 310 #[v,.string key,.func (.func 311) #[] #[Pt b]] w fun r w'=>∃i:Nat,r=.tuple #[Ii i,.bool (zcI (ls.map yO) key i)]∧zoV (ls.map yO) key i∧w'=w:=by
 obtain⟨vs,hsl,hal⟩:=id hl
 obtain⟨p,c,rfl,_⟩:=hsl.val
 have call:∀(i:Nat) (l:List Ent),ls[i]? = some l→∃bb off u,p=some ⟨bb,off,none⟩∧w.cell? ⟨bb,off+i*1,none⟩=some u∧zV TP 311 #[u,.string key,Pt b] w fun r w'=>r=Ii (zin (yO l) key)∧w'=w:=by
  intro i l hi
  obtain⟨bb,off,cap,u,hv,hc,hl'⟩:=hl.at hi
  simp only[Value.slice.injEq]at hv
  refine⟨bb,off,u,hv.1,hc,?_⟩
  cases l with
  |nil=>exact absurd rfl (hne [] (List.mem_of_getElem? hi))
  |cons x l=>exact f57 u x.1 x.2 key l b w hl' hb
 refine A3 Tryz.func310 U U ?_
 refine Sr (Oa U (Oa U (E3 0 1 2 U (Sr (Om U (On ziy U (Oa U (E4 0 1 2 8 U (Sr (Om U (Oa U (Oa U ?_))))))))))))
 refine E6 0 1 2 8 9 10 U (zf (zq ?_))
 refine zT [0,1,2,8,9,10] (fun m F wx=>wx=w∧∃lo hi:Nat,m=hi-lo∧F=[(0,.slice p ls.length c),(1,.string key),(2,.func (.func 311) #[] #[Pt b]),(8,Ii ls.length),(9,Ii lo),(10,Ii hi)]∧zcd (ls.map yO) key lo hi) (m:=ls.length-0) ⟨rfl,0,ls.length,rfl,rfl,by simpa using zcd.start (ls.map yO) key⟩ ?_
 rintro m F wx⟨rfl,lo,hi,rfl,rfl,hbt⟩
 have hle:=hbt.2.1
 rw[List.length_map]at hle
 refine zf (Sr (Om U (Om U (Og (zz U U) U (E7 0 1 2 8 9 10 17 U ?_)))))
 refine zR U (fun hT=>?_) (fun hF=>?_)
 ·refine zn ?_
  have hlt:lo<hi:=by simpa using hT
  have hh:=zpt hlt
  have hk:ls[(lo+hi) / 2]? = some ls[(lo+hi) / 2]:=by simp
  obtain⟨bb,off,u,rfl,hcs,hret⟩:=call _ _ hk
  refine zq (Sr (Om U (Om U ?_)))
  refine Og (zI U U (by omega)) U ?_
  refine Og (yl zdE zaw U (show IntKind.u64.wrap ((lo:Int)+(hi:Int))=((lo+hi:Nat):Int) from by rw[IntWalk.u64_in _ ⟨by omega,by omega⟩];omega)) U ?_
  refine Og (zct 1 U U (by omega) (by decide) (show ((lo+hi:Nat):Int).fdiv 2=(((lo+hi) / 2:Nat):Int) from by rw[Int.fdiv_eq_ediv_of_nonneg _ (by omega)];omega)) U ?_
  refine Og (yl zaw zdE U (show IntKind.i64.wrap (((lo+hi) / 2:Nat):Int)=(((lo+hi) / 2:Nat):Int) from IntWalk.i64_in _ ⟨by omega,by omega⟩)) U ?_
  refine Oa U (E7 0 1 2 8 9 10 11 U (Sr (Om U (Om U (Om U ?_)))))
  refine Og (zi ziy zbV U U _ U (by omega)) U ?_
  refine Ol zeu U hcs (Om U ?_)
  refine Oc zwA U U U hret ?_
  rintro v30 w30⟨rfl,rfl⟩
  refine Og (zz U U) U (E8 0 1 2 8 9 10 11 31 U ?_)
  have hkm:(ls.map yO)[(lo+hi) / 2]? = some (yO ls[(lo+hi) / 2]):=by rw[List.getElem?_map,hk];rfl
  refine zR U (fun hT=>?_) (fun hF=>?_)
  ·have hlt2:=(ziX _ _).1 (of_decide_eq_true hT)
   refine za (Om U ?_)
   refine Og (zI U U (by omega)) U ?_
   refine Oa U (N6 0 1 2 8 9 10 U ?_)
   refine⟨hi-((lo+hi) / 2+1),by omega,rfl,(lo+hi) / 2+1,hi,rfl,rfl,hbt.low hm hh.1 hh.2 hkm hlt2⟩
  have hlt2:blt (yO ls[(lo+hi) / 2]) key=false:=by
   cases hx:blt (yO ls[(lo+hi) / 2]) key with
   |false=>rfl
   |true=>have:=(ziX _ _).2 hx;simp at hF;omega
  refine za (Om U (Oa U (N6 0 1 2 8 9 10 U ?_)))
  refine⟨(lo+hi) / 2-lo,by omega,rfl,lo,(lo+hi) / 2,rfl,rfl,hbt.high hm hh.1 hh.2 hkm hlt2⟩
 refine zJ ?_
 repeat first|refine te ?_|refine bo rfl ?_
 refine zt _ ?_
 have hge:hi≤lo:=by simpa using hF
 have hlb:=hbt.done hge
 refine zf ?_
 by_cases hlt:lo<ls.length
 ·have hk:ls[lo]? = some ls[lo]:=by simp
  obtain⟨bb,off,u,rfl,hcs,hret⟩:=call _ _ hk
  have hhas:zcI (ls.map yO) key lo=decide (zin (yO ls[lo]) key=0):=by
   simp only[zcI,List.getElem?_map,hk,Option.map_some]
   exact decide_eq_decide.2 (zpD _ _).symm
  refine za (Om U (Om U (Om U ?_)))
  refine Og (vt (zz U U) (by simpa using hlt)) U ?_
  refine Om U (Oj U U (Oj U U (Oj U U ?_)))
  refine Oy U U (zi ziy zbV U U _ U hlt) ?_
  refine Oy U U (zg zeu U hcs) (Oj U U ?_)
  refine Ow U U zwA U U U hret ?_
  rintro v46 w46⟨rfl,rfl⟩
  refine Oy U U (zxl (zx U U) hhas.symm) (Ot U (Oa U (Oa U (E2 6 7 U (zk ?_)))))
  refine zcw U U U ?_
  exact⟨lo,U,hlb,U⟩
 have hhas:zcI (ls.map yO) key lo=false:=by
  simp only[zcI,List.getElem?_map,List.getElem?_eq_none (Nat.not_lt.1 hlt),Option.map_none]
 refine za (Om U (Om U (Om U ?_)))
 refine Og (vf (zz U U) (by simpa using hlt)) U ?_
 refine Om U ?_
 iterate 8 refine zem U U U U U U ?_
 refine Of U (Oa U (Oa U (E2 6 7 U (zk ?_))))
 refine zcw U U U ?_
 exact⟨lo,by rw[hhas],hlb,rfl⟩
theorem f40(v:Va)(es:List Ent)(key:By)(w:Wl)(hl:yF w v es)(hn:es.length≤4611686018427387903)(hs:Srt es) :
 zV TP 184 #[v,.string key,.func (.func 185) #[] #[]] w fun r w'=>r=.tuple #[Ii (lbN es key:Nat),.bool (zev es key)]∧zl [] w w':=by
 refine A3 Tryz.func184 U U ?_
 refine Sr ?_
 refine Ob U U ?_
 intro b5 w5 e5 n5 c5 k5
 refine Oa U (Oa U (E3 0 1 5 U (Sr (Om U (Om U (Og (zap U U) U ?_))))))
 refine Oc zz4 U U U (f50 v es key b5 _ (hl.chg0 c5) hn k5 (hs.mono key)) ?_
 rintro v11 w11⟨i,rfl,hlb,c11⟩
 refine Oe U U (Oe U U (Oa U (Oa U (E2 6 7 U (zk ?_)))))
 refine zcw U U U ?_
 have:=hlb.eq
 subst this
 exact⟨U,c5.trans c11⟩
theorem f48(v:Va)(ls:LE)(key:By)(w:Wl)(hl:yJ w v ls)(hne:∀l∈ls,l≠[])(hn:ls.length≤4611686018427387903)(hs:zkr ls) :
 zV TP 227 #[v,.string key,.func (.func 228) #[] #[]] w fun r w'=>∃i:Nat,r=.tuple #[Ii i,.bool (zcI (ls.map yO) key i)]∧zoV (ls.map yO) key i∧zl [] w w':=by
 refine A3 Tryz.func227 U U ?_
 refine Sr ?_
 refine Ob U U ?_
 intro b5 w5 e5 n5 c5 k5
 refine Oa U (Oa U (E3 0 1 5 U (Sr (Om U (Om U (Og (zap U U) U ?_))))))
 refine Oc zAW U U U (f56 v ls key b5 _ (hl.chg0 c5) hne hn k5 (hs.mono key)) ?_
 rintro v11 w11⟨i,rfl,hlb,rfl⟩
 refine Oe U U (Oe U U (Oa U (Oa U (E2 6 7 U (zk ?_)))))
 refine zcw U U U ?_
 exact⟨i,U,hlb,c5⟩
theorem f39(v:Va)(ls:LE)(key:By)(w:Wl)(hl:yJ w v ls)(hne:∀l∈ls,l≠[])(hn:ls.length≤4611686018427387903)(hs:zkr ls) :
 zV TP 183 #[v,.string key] w fun r w'=>r=Ii (yN ls key-1:Nat)∧zl [] w w':=by
 refine A2 Tryz.func183 U U ?_
 refine Sr (Oa U (E2 0 1 U (Sr (Om U (Om U ?_)))))
 refine Oc zBX U U U (f48 v ls key _ hl hne hn hs) ?_
 rintro v10 w10⟨i,rfl,hlb,c10⟩
 refine Om U (Oe U U (Oe U U (Oa U (Oa U (E2 5 6 U ?_)))))
 have hc:=zvN hs hlb
 have hi:i≤ls.length:=by simpa using hlb.1
 refine zf (Sr (Om U (Og (zE U) U (E2 5 14 U ?_))))
 refine zR U (fun hT=>?_) (fun hF=>?_)
 ·refine za (Om U ?_)
  refine Og (yI U U (by omega)) U ?_
  refine Oa U (E1 5 U (Sr (Om U (Og (zo1 U U) U (Oa U (E1 4 U (zk ?_)))))))
  refine zy U U ?_
  have:zcI (ls.map yO) key i=false:=by simpa using hT
  rw[this]at hc
  simp at hc
  refine⟨?_,c10⟩
  rw[hc]
  congr 1
  split<;>omega
 refine zn (Sr (Om U (Og (zo1 U U) U (Oa U (E1 4 U (zk ?_))))))
 refine zy U U ?_
 have:zcI (ls.map yO) key i=true:=by simpa using hF
 rw[this]at hc
 simp at hc
 refine⟨?_,c10⟩
 rw[hc]
 congr 1
 split<;>omega
def spot(ls:LE)(key:By):Nat×Nat×Bool:=
 match ls[yN ls key-1]? with
 |some l=>(yN ls key-1,lbN l key,zev l key)
 |none=>(0,0,false)
theorem ziZ{ls:LE}{key:By}(h:ls≠[]):yN ls key-1<ls.length:=by
 have:yN ls key≤ls.length:=(List.takeWhile_prefix _).length_le
 have:0<ls.length:=List.length_pos_iff.2 h
 omega
theorem f24(v:Va)(ls:LE)(key:By)(w:Wl)(hl:yJ w v ls)(hne:∀l∈ls,l≠[])(hn:ls.length≤4611686018427387903)(hs:zkr ls)(hsl:∀l∈ls,Srt l)(hnl:∀l∈ls,l.length≤4611686018427387903) :
 zV TP 120 #[v,.string key] w fun r w'=>r=.tuple #[Ii ((spot ls key).1:Nat),Ii ((spot ls key).2.1:Nat),.bool (spot ls key).2.2]∧zl [] w w':=by
 obtain⟨vs,hsl',hal⟩:=id hl
 obtain⟨p,c,rfl,_⟩:=hsl'.val
 refine A2 Tryz.func120 U U ?_
 refine Sr (Oa U (Oa U (Oa U (E2 0 1 U (zf (Sr (Om U (On za9 U (Og (zx U U) U (E3 0 1 9 U ?_))))))))))
 refine zR U (fun hT=>?_) (fun hF=>?_)
 ·refine Sr (Oa U (Oa U (Oa U (E3 4 5 6 U (zk ?_)))))
  refine zbN ?_
  refine zgN U U U U ?_
  have:ls=[]:=List.eq_nil_of_length_eq_zero (by simpa using hT)
  subst this
  exact⟨U,zl.refl _ _⟩
 refine zn ?_
 have hls:ls≠[]:=by rintro rfl;simp at hF
 have hat:=ziZ (key:=key) hls
 have hk:ls[yN ls key-1]? = some ls[yN ls key-1]:=by simp[hat]
 have hmem:ls[yN ls key-1]∈ls:=List.getElem_mem hat
 have hspot:spot ls key=(yN ls key-1,lbN ls[yN ls key-1] key,zev ls[yN ls key-1] key):=by unfold spot;rw[hk]
 refine Sr (Om U (Om U ?_))
 refine Oc zBZ U U U (f39 _ ls key _ hl hne hn hs) ?_
 rintro v12 w12⟨rfl,c12⟩
 refine Oa U (E3 0 1 4 U ?_)
 obtain⟨bb,off,cap,u,hv,hc,hl'⟩:=(hl.chg0 c12).at hk
 cases hv
 refine Sr (Om U (Om U ?_))
 refine Og (zi za9 zbV U U _ U hat) U ?_
 refine Ol zeu U hc (Om U ?_)
 refine Oc zAV U U U (f40 u _ key _ hl' (hnl _ hmem) (hsl _ hmem)) ?_
 rintro v19 w19⟨rfl,c19⟩
 refine Om U (Oe U U (Oe U U (Oa U (Oa U (E3 4 5 6 U (Sr (Om U (Om U (Om U (Oa U (Oa U (Oa U (E3 4 5 6 U (zk ?_))))))))))))))
 refine zgN U U U U ?_
 rw[hspot]
 exact⟨U,c12.trans c19⟩
theorem f25(v:Va)(n:Nat)(xs:List Va)(w:Wl)(h:zB w 215 2 v n xs)(hn:n≤4294967296):zV TP 196 #[v] w fun r w'=>zB w' 215 2 r n xs∧(∀b∈zv r,w.heap.size≤b)∧zl [] w w':=by
 obtain⟨p,c,rfl,_⟩:=h.val
 refine A1 Tryz.func196 U U ?_
 refine Sr (Oa U (E1 0 U (zf (Sr (Om U (Og (zlG yB U U) U (E2 0 4 U ?_)))))))
 refine zR U (fun hT=>?_) (fun hF=>?_)
 ·refine Sr (Oa U (E1 2 U (zk ?_)))
  refine zbN ?_
  refine zy U U ?_
  rcases h with⟨_,rfl,rfl⟩|⟨b,off,cap,cc,he,_⟩
  ·exact⟨zB.nil _ _ _,by simp[zv],zl.refl _ _⟩
  simp only[Value.slice.injEq]at he
  rw[he.1]at hT
  simp at hT
 refine zn (Sr ?_)
 refine Oq (zA ziP U (vs:=[]) U (css:=[]) trivial U U (cs:=[]) U U ?_)
 intro b5 w5 e5 n5 c5 k5
 refine Om U ?_
 refine Oq (yq ziP yB U U (zB.of_blk (n:=0) k5 (by simp) (by simp[maxLen]) (by simp)) (h.chg0 c5) (by simp only[maxLen];omega) (by omega) U ?_)
 intro v7 w7 i7 c7 o7 z7
 refine Oa U (E1 2 U (zk ?_))
 refine zy U U ?_
 refine⟨by simpa using i7,?_,c5.own c7 (by simp[zv,←e5])⟩
 rcases o7 with o7|⟨b,o7,hb⟩
 ·rw[o7];simp[zv,←e5]
 rw[o7];intro x hx;simp at hx;subst hx;have:=c5.size;omega
theorem f31(v:Va)(n:Nat)(xs:List Va)(w:Wl)(h:zB w 176 1 v n xs)(hn:n≤4294967296):zV TP 93 #[v] w fun r w'=>zB w' 176 1 r n xs∧(∀b∈zv r,w.heap.size≤b)∧zl [] w w':=by
 obtain⟨p,c,rfl,_⟩:=h.val
 refine A1 Tryz.func93 U U ?_
 refine Sr (Oa U (E1 0 U (zf (Sr (Om U (Og (zlG za9 U U) U (E2 0 4 U ?_)))))))
 refine zR U (fun hT=>?_) (fun hF=>?_)
 ·refine Sr (Oa U (E1 2 U (zk ?_)))
  refine zbN ?_
  refine zy U U ?_
  rcases h with⟨_,rfl,rfl⟩|⟨b,off,cap,cc,he,_⟩
  ·exact⟨zB.nil _ _ _,by simp[zv],zl.refl _ _⟩
  simp only[Value.slice.injEq]at he
  rw[he.1]at hT
  simp at hT
 refine zn (Sr ?_)
 refine Oq (zA zmK U (vs:=[]) U (css:=[]) trivial U U (cs:=[]) U U ?_)
 intro b5 w5 e5 n5 c5 k5
 refine Om U ?_
 refine Oq (yq zmK za9 U U (zB.of_blk (n:=0) k5 (by simp) (by simp[maxLen]) (by simp)) (h.chg0 c5) (by simp only[maxLen];omega) (by omega) U ?_)
 intro v7 w7 i7 c7 o7 z7
 refine Oa U (E1 2 U (zk ?_))
 refine zy U U ?_
 refine⟨by simpa using i7,?_,c5.own c7 (by simp[zv,←e5])⟩
 rcases o7 with o7|⟨b,o7,hb⟩
 ·rw[o7];simp[zv,←e5]
 rw[o7];intro x hx;simp at hx;subst hx;have:=c5.size;omega
theorem f53(n:Nat)(w:Wl)(hn:n≤4294967296):zV TP 322 #[.slice none 0 0,Ii n] w fun r w'=>zB w' 176 1 r 0 []∧(∀b∈zv r,w.heap.size≤b)∧zl [] w w':=by
 refine A2 Tryz.func322 U U ?_
 refine Sr (Oa U (E2 0 1 U (zf (Sr (Om U (Og (zz U U) U (E3 0 1 6 U ?_)))))))
 refine zR U (fun hT=>?_) (fun hF=>?_)
 ·exfalso
  have:=of_decide_eq_true hT
  omega
 refine zn (zf (Sr (Om U (Om U (Og (zg2 za9 U) U (Om U (On za9 U ?_)))))))
 refine Og (yI U U (by omega)) U ?_
 refine Og (yv (v':=Ii n) (yI U U (by omega)) (by congr 1<;>omega)) U ?_
 refine Oa U (E2 0 1 U (Sr (Om U (Og (zU U U) U (E3 0 1 16 U ?_)))))
 refine zR U (fun hT=>?_) (fun hF=>?_)
 ·have hpos:0<n:=by have:=of_decide_eq_true hT;omega
  refine za (Om U (Om U (Og (zg2 za9 U) U ?_)))
  refine Og (zbo za9 zbV U U _ U (by omega)) U ?_
  refine Om U ?_
  refine Oq (zdL zmK zaw U U U (zB.nil _ _ _) (fun p c he=>by simp[cut]at he;omega) (by simp only[maxLen];omega) (by omega) U ?_)
  intro b cap zs w22 hb c22 hge hle hzl hone k22
  refine Om U (On za9 U ?_)
  refine Og (zbo za9 zbV U U 0 U (by omega)) U ?_
  refine Oa U (E1 0 U (Sr (Om U (Oa U (E1 4 U (zk ?_))))))
  refine zy U U ?_
  have hsl:zeK w22 176 1 b 0 (0+n) cap ([]++zs) (((([]++zs):List Va).drop 0).take ((0+n)*1)):=⟨k22,hge,hle,by simp only[List.nil_append];omega,rfl,hone⟩
  have hc:=hsl.cut (l:=0) (h:=0) (m:=cap) (Nat.le_refl _) (Nat.zero_le _) (Nat.le_refl _)
  refine⟨by simpa using hc,fun x hx=>?_,c22⟩
  have:=zB.cutBlk (len:=0) (cap:=0) x hx
  simp[zv]at this
  omega
 refine zn (Sr (Om U (Oa U (E1 4 U (zk ?_)))))
 refine zy U U ?_
 exact⟨zB.nil _ _ _,by simp[zv],zl.refl _ _⟩
theorem f55(n:Nat)(w:Wl)(hn:n≤4294967296):zV TP 356 #[.slice none 0 0,Ii n] w fun r w'=>zB w' 215 2 r 0 []∧(∀b∈zv r,w.heap.size≤b)∧zl [] w w':=by
 refine A2 Tryz.func356 U U ?_
 refine Sr (Oa U (E2 0 1 U (zf (Sr (Om U (Og (zz U U) U (E3 0 1 6 U ?_)))))))
 refine zR U (fun hT=>?_) (fun hF=>?_)
 ·exfalso
  have:=of_decide_eq_true hT
  omega
 refine zn (zf (Sr (Om U (Om U (Og (zg2 yB U) U (Om U (On yB U ?_)))))))
 refine Og (yI U U (by omega)) U ?_
 refine Og (yv (v':=Ii n) (yI U U (by omega)) (by congr 1<;>omega)) U ?_
 refine Oa U (E2 0 1 U (Sr (Om U (Og (zU U U) U (E3 0 1 16 U ?_)))))
 refine zR U (fun hT=>?_) (fun hF=>?_)
 ·have hpos:0<n:=by have:=of_decide_eq_true hT;omega
  refine za (Om U (Om U (Og (zg2 yB U) U ?_)))
  refine Og (zbo yB zav U U _ U (by omega)) U ?_
  refine Om U ?_
  refine Oq (zdL ziP zaw U U U (zB.nil _ _ _) (fun p c he=>by simp[cut]at he;omega) (by simp only[maxLen];omega) (by omega) U ?_)
  intro b cap zs w22 hb c22 hge hle hzl hone k22
  refine Om U (On yB U ?_)
  refine Og (zbo yB zav U U 0 U (by omega)) U ?_
  refine Oa U (E1 0 U (Sr (Om U (Oa U (E1 4 U (zk ?_))))))
  refine zy U U ?_
  have hsl:zeK w22 215 2 b 0 (0+n) cap ([]++zs) (((([]++zs):List Va).drop 0).take ((0+n)*2)):=⟨k22,hge,hle,by simp only[List.nil_append];omega,rfl,hone⟩
  have hc:=hsl.cut (l:=0) (h:=0) (m:=cap) (Nat.le_refl _) (Nat.zero_le _) (Nat.le_refl _)
  refine⟨by simpa using hc,fun x hx=>?_,c22⟩
  have:=zB.cutBlk (len:=0) (cap:=0) x hx
  simp[zv]at this
  omega
 refine zn (Sr (Om U (Oa U (E1 4 U (zk ?_)))))
 refine zy U U ?_
 exact⟨zB.nil _ _ _,by simp[zv],zl.refl _ _⟩
theorem f42(v:Va)(us:List Va)(xss:List (List Va))(w:Wl)(hu:zB w 173 1 v xss.length us)(ha:zho w 176 1 us xss)(ht:zbW 1 xss xss.length≤4294967296)(hlen:xss.length≤4294967296) :
 zV TP 262 #[v] w fun r w'=>zB w' 176 1 r (zbW 1 xss xss.length) xss.flatten∧(∀b∈zv r,w.heap.size≤b)∧zl [] w w':=by
 have part:∀(wx:Wl) (i:Nat),zl [] w wx→i<xss.length→∃b off cap x p c,v=.slice (some ⟨b,off,none⟩) xss.length cap∧xss[i]? = some x∧wx.cell? ⟨b,off+i*1,none⟩=some (.slice p (x.length / 1) c)∧zB wx 176 1 (.slice p (x.length / 1) c) (x.length / 1) x:=by
  intro wx i hc hi
  obtain⟨b,off,cap,u,hv,hu',hcell⟩:=(hu.chg0 hc).at1 hi
  have hx:xss[i]? = some xss[i]:=by simp[hi]
  obtain⟨u',hu2,hs⟩:=(ha.chg0 hc).at hx
  rw[hu']at hu2
  simp at hu2
  subst hu2
  obtain⟨p,c,rfl,_⟩:=hs.val
  exact⟨b,off,cap,_,p,c,hv,hx,hcell,hs⟩
 obtain⟨pv,cv,rfl,_⟩:=hu.val
 refine A1 Tryz.func262 U U ?_
 refine Sr (Oa U (E1 0 U (Sr (Oa U (E2 0 3 U (zf (Sr (Om U (On zn2 U (Om U (E5 0 3 9 10 11 U (zq ?_))))))))))))
 refine zT [0,3,9,10,11] (fun m F wx=>wx=w∧∃j:Nat,m=xss.length-j∧j≤xss.length∧F=[(0,.slice pv xss.length cv),(3,Ii (zbW 1 xss j:Nat)),(9,.slice pv xss.length cv),(10,Ii xss.length),(11,Ii j)]) (m:=xss.length-0) ⟨U,0,U,Nat.zero_le _,U⟩ ?_
 rintro m F wx⟨rfl,j,rfl,hj,rfl⟩
 have hmj:=zcm 1 xss hj
 refine Sr (Og (zz U U) U (E6 0 3 9 10 11 12 U (zf ?_)))
 refine zR U (fun hT=>?_) (fun hF=>?_)
 ·refine zn ?_
  have hlt:j<xss.length:=by simpa using hT
  obtain⟨b,off,cap,x,p,c,hv,hx,hcell,hs⟩:=part wx j (zl.refl _ _) hlt
  cases hv
  have hsucc:=zen (k:=1) hx
  have hmj2:=zcm 1 xss (show j+1≤xss.length by omega)
  refine zf (zq (Sr ?_))
  refine Og (zi zn2 zj6 U U _ U hlt) U ?_
  refine Ol zb6 U hcell (Oa U (E6 0 3 5 9 10 11 U (Sr (Om U (Om U (On za9 U ?_))))))
  refine Og (zI U U (by omega)) U ?_
  refine Oa U (E5 0 3 9 10 11 U (Sr (Om U (Og (zz U U) U (E6 0 3 9 10 11 20 U ?_)))))
  refine zR U (fun hT=>?_) (fun hF=>?_)
  ·exfalso
   have:=of_decide_eq_true hT
   omega
  refine zW (zm (za ?_))
  refine Og (zI U U (by omega)) U ?_
  refine Om U (N5 0 3 9 10 11 U ?_)
  refine⟨xss.length-(j+1),by omega,rfl,j+1,rfl,by omega,?_⟩
  rw[hsucc]
  rfl
 have hge:¬ j<xss.length:=by simpa using hF
 obtain rfl:j=xss.length:=by omega
 refine zJ ?_
 repeat first|refine te ?_|refine bo rfl ?_
 refine zt _ ?_
 refine Sr (Om U ?_)
 refine Oc zCq U U U (f53 (zbW 1 xss xss.length) wx ht) ?_
 rintro v24 w24⟨i24,n24,c24⟩
 refine Oa U (E2 0 6 U (zf (Sr (Om U (On zn2 U (Om U (E4 6 25 26 27 U (zq ?_))))))))
 refine zT [6,25,26,27] (fun m F wy=>∃(j:Nat) (acc:Va),m=xss.length-j∧j≤xss.length∧F=[(6,acc),(25,.slice pv xss.length cv),(26,Ii xss.length),(27,Ii j)]∧zB wy 176 1 acc (zbW 1 xss j) (xss.take j).flatten∧(∀b∈zv acc,wx.heap.size≤b)∧zl [] wx wy) (m:=xss.length-0) ⟨0,v24,rfl,Nat.zero_le _,rfl,by simpa[zbW] using i24,n24,c24⟩ ?_
 rintro m F wy⟨j,acc,rfl,hj,rfl,hacc,hnew,hcy⟩
 have hmj:=zcm 1 xss hj
 refine Sr (Og (zz U U) U (E5 6 25 26 27 28 U (zf ?_)))
 refine zR U (fun hT=>?_) (fun hF=>?_)
 ·refine zn ?_
  have hlt:j<xss.length:=by simpa using hT
  obtain⟨b,off,cap,x,p,c,hv,hx,hcell,hs⟩:=part wy j hcy hlt
  cases hv
  have hsucc:=zen (k:=1) hx
  have hmj2:=zcm 1 xss (show j+1≤xss.length by omega)
  refine zf (zq (Sr ?_))
  refine Og (zi zn2 zj6 U U _ U hlt) U ?_
  refine Ol zb6 U hcell (Oa U (E5 6 8 25 26 27 U (za (Om U (Om U ?_)))))
  refine Oq (yq zmK za9 U U hacc hs (by simp only[maxLen];omega) (by omega) U ?_)
  intro v33 w33 i33 c33 o33 z33
  refine Oa U (N4 6 25 26 27 U (zm (za ?_)))
  refine Og (zI U U (by omega)) U ?_
  refine Om U (N4 6 25 26 27 U ?_)
  refine⟨xss.length-(j+1),by omega,j+1,v33,rfl,by omega,rfl,?_,?_,hcy.own c33 hnew⟩
  ·rw[hsucc,zeC hx]
   exact i33
  rcases o33 with o33|⟨b',o33,hb'⟩
  ·rw[o33];exact hnew
  rw[o33];intro y hy;simp at hy;subst hy;have:=hcy.size;omega
 have hge:¬ j<xss.length:=by simpa using hF
 obtain rfl:j=xss.length:=by omega
 refine zJ ?_
 repeat first|refine te ?_|refine bo rfl ?_
 refine zt _ ?_
 refine Sr (Om U (Oa U (E1 2 U (zk ?_))))
 refine zy U U ?_
 rw[List.take_length]at hacc
 exact⟨hacc,hnew,hcy⟩
theorem f45(v:Va)(us:List Va)(xss:List (List Va))(w:Wl)(hu:zB w 176 1 v xss.length us)(ha:zho w 215 2 us xss)(ht:zbW 2 xss xss.length≤4294967296)(hlen:xss.length≤4294967296) :
 zV TP 335 #[v] w fun r w'=>zB w' 215 2 r (zbW 2 xss xss.length) xss.flatten∧(∀b∈zv r,w.heap.size≤b)∧zl [] w w':=by
 have part:∀(wx:Wl) (i:Nat),zl [] w wx→i<xss.length→∃b off cap x p c,v=.slice (some ⟨b,off,none⟩) xss.length cap∧xss[i]? = some x∧wx.cell? ⟨b,off+i*1,none⟩=some (.slice p (x.length / 2) c)∧zB wx 215 2 (.slice p (x.length / 2) c) (x.length / 2) x:=by
  intro wx i hc hi
  obtain⟨b,off,cap,u,hv,hu',hcell⟩:=(hu.chg0 hc).at1 hi
  have hx:xss[i]? = some xss[i]:=by simp[hi]
  obtain⟨u',hu2,hs⟩:=(ha.chg0 hc).at hx
  rw[hu']at hu2
  simp at hu2
  subst hu2
  obtain⟨p,c,rfl,_⟩:=hs.val
  exact⟨b,off,cap,_,p,c,hv,hx,hcell,hs⟩
 obtain⟨pv,cv,rfl,_⟩:=hu.val
 refine A1 Tryz.func335 U U ?_
 refine Sr (Oa U (E1 0 U (Sr (Oa U (E2 0 3 U (zf (Sr (Om U (On ziy U (Om U (E5 0 3 9 10 11 U (zq ?_))))))))))))
 refine zT [0,3,9,10,11] (fun m F wx=>wx=w∧∃j:Nat,m=xss.length-j∧j≤xss.length∧F=[(0,.slice pv xss.length cv),(3,Ii (zbW 2 xss j:Nat)),(9,.slice pv xss.length cv),(10,Ii xss.length),(11,Ii j)]) (m:=xss.length-0) ⟨U,0,U,Nat.zero_le _,U⟩ ?_
 rintro m F wx⟨rfl,j,rfl,hj,rfl⟩
 have hmj:=zcm 2 xss hj
 refine Sr (Og (zz U U) U (E6 0 3 9 10 11 12 U (zf ?_)))
 refine zR U (fun hT=>?_) (fun hF=>?_)
 ·refine zn ?_
  have hlt:j<xss.length:=by simpa using hT
  obtain⟨b,off,cap,x,p,c,hv,hx,hcell,hs⟩:=part wx j (zl.refl _ _) hlt
  cases hv
  have hsucc:=zen (k:=2) hx
  have hmj2:=zcm 2 xss (show j+1≤xss.length by omega)
  refine zf (zq (Sr ?_))
  refine Og (zi ziy zbV U U _ U hlt) U ?_
  refine Ol zeu U hcell (Oa U (E6 0 3 5 9 10 11 U (Sr (Om U (Om U (On yB U ?_))))))
  refine Og (zI U U (by omega)) U ?_
  refine Oa U (E5 0 3 9 10 11 U (Sr (Om U (Og (zz U U) U (E6 0 3 9 10 11 20 U ?_)))))
  refine zR U (fun hT=>?_) (fun hF=>?_)
  ·exfalso
   have:=of_decide_eq_true hT
   omega
  refine zW (zm (za ?_))
  refine Og (zI U U (by omega)) U ?_
  refine Om U (N5 0 3 9 10 11 U ?_)
  refine⟨xss.length-(j+1),by omega,rfl,j+1,rfl,by omega,?_⟩
  rw[hsucc]
  rfl
 have hge:¬ j<xss.length:=by simpa using hF
 obtain rfl:j=xss.length:=by omega
 refine zJ ?_
 repeat first|refine te ?_|refine bo rfl ?_
 refine zt _ ?_
 refine Sr (Om U ?_)
 refine Oc zzp U U U (f55 (zbW 2 xss xss.length) wx ht) ?_
 rintro v24 w24⟨i24,n24,c24⟩
 refine Oa U (E2 0 6 U (zf (Sr (Om U (On ziy U (Om U (E4 6 25 26 27 U (zq ?_))))))))
 refine zT [6,25,26,27] (fun m F wy=>∃(j:Nat) (acc:Va),m=xss.length-j∧j≤xss.length∧F=[(6,acc),(25,.slice pv xss.length cv),(26,Ii xss.length),(27,Ii j)]∧zB wy 215 2 acc (zbW 2 xss j) (xss.take j).flatten∧(∀b∈zv acc,wx.heap.size≤b)∧zl [] wx wy) (m:=xss.length-0) ⟨0,v24,rfl,Nat.zero_le _,rfl,by simpa[zbW] using i24,n24,c24⟩ ?_
 rintro m F wy⟨j,acc,rfl,hj,rfl,hacc,hnew,hcy⟩
 have hmj:=zcm 2 xss hj
 refine Sr (Og (zz U U) U (E5 6 25 26 27 28 U (zf ?_)))
 refine zR U (fun hT=>?_) (fun hF=>?_)
 ·refine zn ?_
  have hlt:j<xss.length:=by simpa using hT
  obtain⟨b,off,cap,x,p,c,hv,hx,hcell,hs⟩:=part wy j hcy hlt
  cases hv
  have hsucc:=zen (k:=2) hx
  have hmj2:=zcm 2 xss (show j+1≤xss.length by omega)
  refine zf (zq (Sr ?_))
  refine Og (zi ziy zbV U U _ U hlt) U ?_
  refine Ol zeu U hcell (Oa U (E5 6 8 25 26 27 U (za (Om U (Om U ?_)))))
  refine Oq (yq ziP yB U U hacc hs (by simp only[maxLen];omega) (by omega) U ?_)
  intro v33 w33 i33 c33 o33 z33
  refine Oa U (N4 6 25 26 27 U (zm (za ?_)))
  refine Og (zI U U (by omega)) U ?_
  refine Om U (N4 6 25 26 27 U ?_)
  refine⟨xss.length-(j+1),by omega,j+1,v33,rfl,by omega,rfl,?_,?_,hcy.own c33 hnew⟩
  ·rw[hsucc,zeC hx]
   exact i33
  rcases o33 with o33|⟨b',o33,hb'⟩
  ·rw[o33];exact hnew
  rw[o33];intro y hy;simp at hy;subst hy;have:=hcy.size;omega
 have hge:¬ j<xss.length:=by simpa using hF
 obtain rfl:j=xss.length:=by omega
 refine zJ ?_
 repeat first|refine te ?_|refine bo rfl ?_
 refine zt _ ?_
 refine Sr (Om U (Oa U (E1 2 U (zk ?_))))
 refine zy U U ?_
 rw[List.take_length]at hacc
 exact⟨hacc,hnew,hcy⟩
def Pg(w:Wl)(p:Nat)(ls:LE):Prop:=∃v,zQ w p 178 [v]∧yJ w v ls
theorem Pg.chg0{w w':Wl}{p:Nat}{ls:LE}(h:Pg w p ls)(hc:zl [] w w'):Pg w' p ls:=
 let ⟨v,h1,h2⟩:=h; ⟨v,h1.chg0 hc,h2.chg0 hc⟩
theorem Pg.lt{w:Wl}{p:Nat}{ls:LE}(h:Pg w p ls):p<w.heap.size:=let ⟨_,h1,_⟩:=h;h1.lt
theorem Pg.chgO{w w':Wl}{p q:Nat}{ls ms:LE}(h:Pg w p ls)(hq:Pg w q ms)(hne:p≠q)(hc:zl [q] w w'):Pg w' p ls:=
 let ⟨v,h1,h2⟩:=h;let ⟨_,g1,_⟩:=hq; ⟨v,h1.chg hc (by simpa using hne),h2.chg1 g1 rfl rfl hc⟩
theorem f26(p:Nat)(ls new:LE)(lv:Va)(fr un:Nat)(w:Wl)(hp:Pg w p ls)(hnew:yJ w lv new)(h1:fr≤un)(h2:un≤ls.length)(hb1:ls.length≤1048576)(hb2:new.length≤1048576) :
 zV TP 197 #[Pt p,Ii fr,Ii un,lv] w fun r w'=>r=.tuple #[]∧Pg w' p (ls.take fr++new++ls.drop un)∧zl [p] w w':=by
 obtain⟨v,hb,vs,hsl,hal⟩:=hp
 obtain⟨nvs,hnsl,hnal⟩:=hnew
 obtain⟨pv,cv,rfl,hlc⟩:=hsl.val
 obtain⟨pn,cn,rfl,_⟩:=hnsl.val
 have hvl:=hsl.len_xs
 have hnl:=hnsl.len_xs
 have hA:zB w 176 1 (cut pv 0 fr fr 1) ((vs.take fr).length / 1) (vs.take fr):=by
  have:=hsl.cut (l:=0) (h:=fr) (m:=fr) (Nat.zero_le _) (Nat.le_refl _) (by omega) (by omega)
  simpa[show min fr vs.length=fr by omega] using this
 have hB:zB w 176 1 (.slice pn new.length cn) (nvs.length / 1) nvs:=by simpa[hnl] using hnsl
 have hC:zB w 176 1 (cut pv un ls.length cv 1) ((vs.drop un).length / 1) (vs.drop un):=by
  have:=hsl.cut (l:=un) (h:=ls.length) (m:=cv) (by omega) hlc (Nat.le_refl _) (Nat.le_refl _)
  have e:(vs.drop (un*1)).take ((ls.length-un)*1)=vs.drop un:=by rw[Nat.mul_one,Nat.mul_one,Tl (by simp;omega)]
  rw[e]at this
  simpa[hvl] using this
 have hS:zho w 176 1 [cut pv 0 fr fr 1,.slice pn new.length cn,cut pv un ls.length cv 1] [vs.take fr,nvs,vs.drop un]:=⟨hA,hB,hC,trivial⟩
 have hsum:zbW 1 [vs.take fr,nvs,vs.drop un] 3=fr+new.length+(ls.length-un):=by
  simp[zbW,hvl,hnl,show min fr ls.length=fr by omega]
  omega
 refine A4 Tryz.func197 U U ?_
 refine zK (fun wz=>zl [] w wz) mix (by kernel_rfl) (zl.drew [] w) ?_
 refine Tm U (Tm U (Tp (fun _=>zD U) U (Td zaq U (Tr (fun wz hz=>zg zb6 U ((hb.chg0 hz).cell' U)) U (Tm U (Tm U ?_))))))
 refine Tp (fun _=>zgq za9 zbV U U U _ _ U U (by omega) (by omega)) U ?_
 refine Tm U (Tm U (Tp (fun _=>zD U) U (Td zaq U (Tr (fun wz hz=>zg zb6 U ((hb.chg0 hz).cell' U)) U (Tm U ?_)))))
 refine Tp (fun _=>za8 za9 zbV U U _ U (by omega)) U ?_
 refine zaM U (gn U) (zA zBB U (vs:=[_,_,_]) U (css:=[_,_,_]) ⟨U,U,U,trivial⟩ U U (cs:=[_,_,_]) U U ?_)
 intro b23 w23 e23 n23 c23 k23
 refine⟨.inl ((zl.drew [] w).trans c23),?_⟩
 refine Tc zCc U U U (f42 _ _ [vs.take fr,nvs,vs.drop un] _ (zB.of_blk (n:=3) k23 U (by simp[maxLen]) (by intro u hu;simp at hu;rcases hu with rfl|rfl|rfl<;>rfl)) (hS.chg0 ((zl.drew [] w).trans c23)) (by simp only[List.length_cons,List.length_nil];rw[hsum];omega) (by simp)) ?_
 rintro v24 w24⟨i24,n24,c24⟩
 obtain⟨p24,q24,rfl,_⟩:=i24.val
 refine⟨.inl (((zl.drew [] w).trans c23).trans c24),?_⟩
 refine Tp (fun _=>zD U) U (Td zaq U ?_)
 refine zaM U (gn U) (zu zj6 U U U U (hb.chg0 (((zl.drew [] w).trans c23).trans c24)) (by simp) (by intro u hu;simp at hu;subst hu;rfl) ?_)
 intro wF nF cF kF
 refine⟨.inr (by kernel_rfl),?_⟩
 refine zdz [] (F':=[]) U ?_
 have hall:zl [] w w24:=((zl.drew [] w).trans c23).trans c24
 refine zgD U ⟨U,⟨_,kF,?_⟩,(hall.any (S:=[p])).transS cF⟩
 have hpg:yJ w24 (.slice p24 (zbW 1 [vs.take fr,nvs,vs.drop un] 3) q24) (ls.take fr++new++ls.drop un):=by
  refine⟨vs.take fr++nvs++vs.drop un,?_,((hal.take fr).append hnal |>.append (hal.drop un)).chg hall (by simp)⟩
  have hlen:(ls.take fr++new++ls.drop un).length=zbW 1 [vs.take fr,nvs,vs.drop un] 3:=by
   rw[hsum];simp;omega
  rw[hlen]
  simpa using i24
 exact hpg.chg1 (hb.chg0 hall) U U cF
theorem zAp:zfI TP 263=some (Extern.SlicesOverlaps.overlaps #[175,175] #[4]):=by kernel_rfl
set_option maxHeartbeats 1000000 in
theorem f27(v u:Va)(i n:Nat)(xs ys:List Va)(w:Wl)(hv:zB w 215 2 v n xs)(hu:zB w 215 2 u 1 ys)(hi:i≤n)(hn:n≤1048576)(hap:∀b∈zv u,b∉zv v) :
 zV TP 198 #[v,Ii i,u] w fun r w'=>zB w' 215 2 r (n+1) (xs.take (i*2)++ys++xs.drop (i*2))∧zl (zv v) w w'∧(zv r=zv v∨∃b,zv r=[b]∧w.heap.size≤b):=by
 have hlx:=hv.len_xs
 have hly:=hu.len_xs
 obtain⟨pv,cv,rfl,hlc⟩:=hv.val
 obtain⟨pu,cu,rfl,_⟩:=hu.val
 refine A3 Tryz.func198 U U ?_
 refine Sr (Oa U (E3 0 1 2 U (Sr (Om U (Om U ?_)))))
 refine Og (za8 yB zav U U _ U hi) U ?_
 refine E3 0 1 2 U (Sr (Om U (On zjs U (Oa U (E4 0 1 2 7 U (zf (Sr (Om U (Og (zx U U) U (E5 0 1 2 7 16 U (zb U (zn (zf ?_)))))))))))))
 refine za (Om U (On yB U (Oa U (E5 0 1 2 7 8 U (zf (Sr (Om U (Om U (Og (zx U U) U (E6 0 1 2 7 8 22 U ?_))))))))))
 refine zR U (fun hT=>?_) (fun hF=>?_)
 ·obtain rfl:i=n:=by have:=of_decide_eq_true hT;omega
  refine Sr (Om U (Om U ?_))
  refine Oq (yq ziP zjs U U hv hu (by simp only[maxLen];omega) (by omega) U ?_)
  intro v25 w25 i25 c25 o25 z25
  refine Oa U (E1 6 U (zk ?_))
  refine zbN ?_
  refine zy U U ?_
  refine⟨?_,c25,o25⟩
  rw[Tl (by omega),List.drop_of_length_le (by omega),List.append_nil]
  exact i25
 have hlt:i<n:=by have:=of_decide_eq_false hF;omega
 refine zn (zf (Sr (Om U (Om U ?_))))
 refine Og (zI U U (by omega)) U ?_
 refine Om U (Og (zg2 yB U) U (Og (zU U U) U (E6 0 1 2 7 8 31 U ?_)))
 refine zR U (fun hT=>?_) (fun hF=>?_)
 ·have hgr:cv<n+1:=by have:=of_decide_eq_true hT;omega
  refine Sr (Om U (Om U ?_))
  refine Og (zbo yB zav U U i U (by omega)) U ?_
  refine Om U (Om U ?_)
  refine Og (zI U U (by omega)) U ?_
  refine Om U ?_
  refine Og (yv (v':=Ii ((n+1-i:Nat):Int)) (yI U U (by omega)) (by congr 1;omega)) U ?_
  have hcutA:zB w 215 2 (cut pv 0 i cv 2) i (xs.take (i*2)):=by simpa using hv.cut (l:=0) (h:=i) (m:=cv) (Nat.zero_le _) (by omega) (Nat.le_refl _) hi
  have hcutB:zB w 215 2 (cut pv i n cv 2) (n-i) (xs.drop (i*2)):=by
   have:=hv.cut (l:=i) (h:=n) (m:=cv) hi hlc (Nat.le_refl _) (Nat.le_refl _)
   rw[Tl (by simp;omega)]at this
   exact this
  have hAl:(xs.take (i*2)).length=i*2:=by simp;omega
  have hBl:(xs.drop (i*2)).length=(n-i)*2:=by simp;omega
  refine Oq (zdL ziP zaw U U U hcutA (fun p c he=>by obtain⟨q,hq⟩:=zuj pv 0 i cv 2;rw[hq]at he;simp only[Value.slice.injEq]at he;omega) (by simp only[maxLen];omega) (by omega) U ?_)
  intro b cap zs w40 hb c40 hge hle hzl hone k40
  refine Og (yv (v':=.slice (some ⟨b,0,none⟩) (n+1) cap) (yj U) (by congr 1;omega)) U ?_
  refine E5 0 1 2 7 9 U (Sr (Om U (Om U ?_)))
  refine Og (yv (za8 yB zav U U i U (by omega)) (zf9 (by omega))) U ?_
  refine Om U ?_
  refine Oq (ziT (c:=1) yB zav U U (hu.chg0 c40) k40 (by omega) (by simp;omega) U ?_)
  intro w45 n45 c45 k45
  refine E4 0 1 7 9 U (zf ?_)
  have hc2:zl [] w w45.drew:=(c40.own c45 (by simp[←hb])).trans (zl.drew [] _)
  have k45':zQ w45.drew b 215 _:=k45
  rw[show 0+i*2=(xs.take (i*2)).length by omega,zeq,Tl (show ys.length≤1*2 by omega)]at k45'
  rw[←List.append_assoc]at k45'
  refine zK (fun _=>True) mix (by kernel_rfl) trivial ?_
  refine Tm U (Tm U (Tm U ?_))
  refine Tp (fun _=>zI U U (by omega)) U ?_
  refine Tp (fun _=>yv (za8 yB zav U U (i+1) U (by omega)) (zf9 (by omega))) U ?_
  refine Tm U (Tm U (Tp (fun _=>za8 yB zav U U i U hi) U ?_))
  refine zaM U (gn U) (ziT (c:=n-i) yB zav U U (hcutB.chg0 hc2) k45' (by omega) (by simp only[List.length_append,List.length_drop,hAl];omega) U ?_)
  intro w54 n54 c54 k54
  refine⟨.inl trivial,?_⟩
  refine D1 9 U (Sr (Om U (Oa U (E1 6 U (zk ?_)))))
  refine zbN ?_
  refine zy U U ?_
  rw[show 0+(i+1)*2=(xs.take (i*2)++ys).length by rw[List.length_append];omega,zeq,Tl (show (xs.drop (i*2)).length≤(n-i)*2 by omega)]at k54
  refine⟨.inr ⟨b,0,cap,_,rfl,k54,(by omega),hle,?_,?_,?_⟩,((hc2.own c54 (by simp[←hb])).any),.inr ⟨b,rfl,by omega⟩⟩
  ·simp only[List.length_append,List.length_drop,hAl];omega
  ·rw[List.drop_zero,←List.append_assoc,List.take_left' (by simp only[List.length_append];omega)]
  intro q hq
  simp only[List.mem_append]at hq hone
  rcases hq with (hq|hq)|hq|hq
  ·exact hone q (.inl hq)
  ·exact hu.one_xs q hq
  ·exact hv.one_xs q (List.mem_of_mem_drop hq)
  exact hone q (.inr (List.mem_of_mem_drop (List.mem_of_mem_drop hq)))
 have hroom:n+1≤cv:=by have:=of_decide_eq_false hF;omega
 obtain⟨b,off,c,rfl,hs⟩:∃b off c,pv=some ⟨b,off,none⟩∧zeK w 215 2 b off n cv c xs:=by
  rcases hv with⟨he,_,_⟩|⟨b,off,cap,c,he,hs⟩
  ·simp only[Value.slice.injEq]at he;omega
  simp only[Value.slice.injEq]at he
  obtain⟨rfl,_,rfl⟩:=he
  exact⟨b,off,c,U,hs⟩
 obtain⟨bu,ou,cu',rfl,hsu⟩:∃b off c,pu=some ⟨b,off,none⟩∧zeK w 215 2 b off 1 cu c ys:=by
  rcases hu with⟨_,h1,_⟩|⟨b,off,cap,c,he,hs⟩
  ·omega
  simp only[Value.slice.injEq]at he
  obtain⟨rfl,_,rfl⟩:=he
  exact⟨b,off,c,U,hs⟩
 have hne:bu≠b:=by have:=hap bu (by simp[zv]);simpa[zv] using this
 have hfit:=hs.fit
 have hsn:zeK w 215 2 b off (n+1) cv c ((c.drop off).take ((n+1)*2)):=⟨hs.blk,hroom,hs.max,hs.fit,rfl,hs.one⟩
 have hsrc:=hsn.cut (l:=i) (h:=n+1) (m:=cv) (by omega) hroom (Nat.le_refl _)
 rw[zf9 (by omega)]at hsrc
 refine zn (Sr (Om U (Om U (Om U ?_))))
 refine Og (zI U U (by omega)) U ?_
 refine Og (yv (zbo yB zav U U (n+1) U hroom) znF) U (Oa U (E5 0 1 2 7 8 U (zf (Sr (Om U (Om U (Om U (Om U ?_))))))))
 refine Og (zI U U (by omega)) U ?_
 refine Og (yv (za8 yB zav U U (i+1) U (by omega)) (zf9 (by omega))) U ?_
 refine Oq (zc9 zAp U U (zlW U zjs zav hsu.blk hs.blk hne) U ?_)
 refine Og (zE U) U (E6 0 1 2 7 8 68 U (ze U (zf ?_)))
 refine zK (fun _=>True) mix (by kernel_rfl) trivial ?_
 refine Tm U (Tm U (Tm U ?_))
 refine Tp (fun _=>zI U U (by omega)) U ?_
 refine Tp (fun _=>yv (za8 yB zav U U (i+1) U (by omega)) (zf9 (by omega))) U ?_
 refine Tm U (Tm U ?_)
 refine Tp (fun _=>yv (za8 yB zav U U i U (by omega)) (zf9 (by omega))) U ?_
 refine zaM U (gn U) (ziT (c:=n-i) yB zav U U (hsrc.chg0 (zl.drew [] _)) (hs.blk.chg0 (zl.drew [] _)) (by omega) (by omega) U ?_)
 intro w77 n77 c77 k77
 refine⟨.inl trivial,?_⟩
 refine D3 0 1 2 U ?_
 have hc77:zl [b] w w77:=(zl.drew [b] w).transS c77
 have hu77:=hu.chg hc77 (by simpa[zv] using hne)
 refine Sr (Om U (Om U ?_))
 refine Og (yv (za8 yB zav U U i U (by omega)) (zf9 (by omega))) U ?_
 refine Om U ?_
 refine Oq (ziT (c:=1) yB zav U U hu77 k77 (by omega) (by rw[zco (by simp;omega)];omega) U ?_)
 intro w82 n82 c82 k82
 refine E1 0 U (Sr (Om U (Oa U (E1 6 U (zk ?_)))))
 refine zbN ?_
 refine zy U U ?_
 have hB:((c.drop (off+i*2)).take ((n+1-i)*2)).take ((n-i)*2)=xs.drop (i*2):=by
  rw[List.take_take,hs.xs,List.drop_take,List.drop_drop]
  congr 1
  omega
 have hsplit:c=c.take (off+i*2)++(xs.drop (i*2)++c.drop (off+n*2)):=by
  have e1:c.drop (off+i*2)=xs.drop (i*2)++c.drop (off+n*2):=by
   have e2:=List.take_append_drop ((n-i)*2) (c.drop (off+i*2))
   rw[List.drop_drop,show off+i*2+(n-i)*2=off+n*2 by omega]at e2
   rw[←e2]
   congr 1
   rw[hs.xs,List.drop_take,List.drop_drop]
   congr 1
   omega
  rw[←e1,List.take_append_drop]
 have hAl:(c.take (off+i*2)).length=off+i*2:=by simp;omega
 obtain⟨R,hR,hRm⟩:=zoR (c.take (off+i*2)) (xs.drop (i*2)) (c.drop (off+n*2)) ys (by simp;omega)
 rw[hB,Tl (show ys.length≤1*2 by omega)]at k82
 rw[←hsplit,hAl,show off+i*2+ys.length=off+(i+1)*2 by omega]at hR
 rw[hR]at k82
 refine⟨.inr ⟨b,off,cv,_,U,k82,hroom,hs.max,?_,?_,?_⟩,hc77.transS c82,.inl U⟩
 ·have hcl:c.length=(c.take (off+i*2)++(ys++(xs.drop (i*2)++R))).length:=by
   rw[←hR,zco,zco]
   ·simp;omega
   rw[zco (by simp;omega)];omega
  rw[←hcl];exact hfit
 ·have e3:(c.take (off+i*2)).drop off=xs.take (i*2):=by
   rw[List.drop_take,hs.xs,List.take_take]
   congr 1
   omega
  rw[List.drop_append_of_le_length (by omega),e3,←List.append_assoc,←List.append_assoc,List.take_left' (by simp;omega)]
 intro q hq
 simp only[List.mem_append]at hq
 rcases hq with hq|hq|hq|hq
 ·exact hs.one q (List.mem_of_mem_take hq)
 ·exact hu.one_xs q hq
 ·exact hs.one_xs q (List.mem_of_mem_drop hq)
 rcases hRm q hq with h|h
 ·exact hs.one q (List.mem_of_mem_drop h)
 exact hs.one_xs q (List.mem_of_mem_drop h)
theorem f28(v:Va)(i n:Nat)(xs:List Va)(w:Wl)(hv:zB w 215 2 v n xs)(hi:i<n)(hn:n≤1048576) :
 zV TP 307 #[v,Ii i,Ii ((i:Int)+1)] w fun r w'=>zB w' 215 2 r (n-1) (xs.take (i*2)++xs.drop (i*2+2))∧zl (zv v) w w'∧zv r=zv v:=by
 have hlx:=hv.len_xs
 obtain⟨b,off,cv,c,rfl,hs⟩:∃b off cv c,v=.slice (some ⟨b,off,none⟩) n cv∧zeK w 215 2 b off n cv c xs:=by
  rcases hv with⟨_,rfl,_⟩|⟨b,off,cap,c,he,hs⟩
  ·omega
  exact⟨b,off,cap,c,he,hs⟩
 have hfit:=hs.fit
 have hlc:=hs.le
 refine A3 Tryz.func307 U U ?_
 refine Sr (Oa U (E3 0 1 2 U (Sr (Om U (Om U (Om U (Om U (On yB U ?_))))))))
 refine Og (zfg yB zav U U U U i (i+1) n U (by omega) U (by omega) (by omega) (by omega)) U ?_
 refine E3 0 1 2 U (zf (Sr (Om U (Om U ?_))))
 refine Og (vf (zx U U) (by simp;omega)) U ?_
 refine E4 0 1 2 16 U (zb U (zn (Sr (Om U (On yB U (Oa U (E4 0 1 2 7 U (zf ?_))))))))
 have hsrc:=hs.cut (l:=i+1) (h:=n) (m:=cv) (by omega) hlc (Nat.le_refl _)
 have hB:(c.drop (off+(i+1)*2)).take ((n-(i+1))*2)=xs.drop (i*2+2):=by
  rw[hs.xs,List.drop_take,List.drop_drop]
  congr 1
  ·omega
  congr 1;omega
 rw[hB]at hsrc
 have hBl:(xs.drop (i*2+2)).length=(n-(i+1))*2:=by simp;omega
 refine zK (fun _=>True) mix (by kernel_rfl) trivial ?_
 refine Tm U (Tm U ?_)
 refine Tp (fun _=>yv (zbo yB zav U U i U (by omega)) znF) U ?_
 refine Tm U (Tm U ?_)
 refine Tp (fun _=>za8 yB zav U U (i+1) (by omega) (by omega)) U ?_
 refine zaM U (gn U) (zkn yB zav yB U U (hs.blk.chg0 (zl.drew [] _)) (hsrc.chg0 (zl.drew [] _)) (by omega) hfit U ?_)
 intro w26 n26 c26 k26
 refine⟨.inl trivial,?_⟩
 refine Tp (fun _=>yv (v':=.slice (some ⟨b,off,none⟩) (n-1) cv) (yj U) (by congr 1;omega)) U ?_
 refine D2 0 7 U ?_
 have hl26:(yX c (off+i*2) (xs.drop (i*2+2))).length=c.length:=zco (by omega)
 refine Sr (Om U (Om U (On yB U (Om U ?_))))
 refine Og (yv (zqI yB zav U U U (n-1) n U U (by omega) (by omega)) (zf9 (by omega))) U ?_
 refine Oq (zrE ziP U k26 (by rw[hl26];omega) ?_)
 intro w31 zs n31 c31 hzl hzo k31
 refine E1 0 U (Sr (Om U (Oa U (E1 6 U (zk ?_)))))
 refine zy U U ?_
 have hl31:(yX (yX c (off+i*2) (xs.drop (i*2+2))) (off+(n-1)*2) zs).length=c.length:=by rw[zco (by rw[hl26,hzl];omega),hl26]
 refine⟨.inr ⟨b,off,cv,_,rfl,k31,by omega,hs.max,by rw[hl31];exact hfit,?_,?_⟩,((zl.drew [b] w).transS c26).transS c31,rfl⟩
 ·have hA:(c.take (off+i*2)).drop off=xs.take (i*2):=by
   rw[List.drop_take,hs.xs,List.take_take]
   congr 1
   omega
  have hAl:(c.take (off+i*2)).length=off+i*2:=by simp;omega
  have e1:(yX c (off+i*2) (xs.drop (i*2+2))).take (off+(n-1)*2)=c.take (off+i*2)++xs.drop (i*2+2):=by
   unfold yX
   exact List.take_left' (by simp only[List.length_append,hAl];omega)
  unfold yX at e1 ⊢
  rw[e1,List.append_assoc,List.append_assoc,List.drop_append_of_le_length (by omega),hA,←List.append_assoc,List.take_left' (by simp only[List.length_append,List.length_take];omega)]
 intro q hq
 simp only[yX,List.mem_append]at hq
 rcases hq with (hq|hq)|hq
 ·have:=List.mem_of_mem_take hq
  simp only[List.mem_append]at this
  rcases this with (h|h)|h
  ·exact hs.one q (List.mem_of_mem_take h)
  ·exact hs.one_xs q (List.mem_of_mem_drop h)
  exact hs.one q (List.mem_of_mem_drop h)
 ·exact hzo q hq
 have:=List.mem_of_mem_drop hq
 simp only[List.mem_append]at this
 rcases this with (h|h)|h
 ·exact hs.one q (List.mem_of_mem_take h)
 ·exact hs.one_xs q (List.mem_of_mem_drop h)
 exact hs.one q (List.mem_of_mem_drop h)
def zga(l:List Ent):LE:=if l.length≤8 then [l] else [l.take (l.length / 2),l.drop (l.length / 2)]
theorem yF.cutL{w:Wl}{p:Option Addr}{c:Nat}{l:List Ent}(h:yF w (.slice p l.length c) l){i m:Nat}(hi:i≤l.length)(h1:i≤m)(h2:m≤c):yF w (cut p 0 i m 2) (l.take i):=by
 have:=zB.cut h (l:=0) (h:=i) (m:=m) (Nat.zero_le _) h1 h2 hi
 unfold yF
 rw[zhY,List.length_take]
 simpa[show min i l.length=i by omega] using this
theorem yF.cutR{w:Wl}{p:Option Addr}{c:Nat}{l:List Ent}(h:yF w (.slice p l.length c) l){i:Nat}(hi:i≤l.length)(hc:l.length≤c):yF w (cut p i l.length c 2) (l.drop i):=by
 have:=zB.cut h (l:=i) (h:=l.length) (m:=c) hi hc (Nat.le_refl _) (Nat.le_refl _)
 unfold yF
 rw[zgA,List.length_drop]
 rw[Tl (by simp[zfV];omega)]at this
 exact this
theorem yJ.one{w:Wl}{b:Nat}{v:Va}{l:List Ent}(hb:zQ w b 176 [v])(hl:yF w v l):yJ w (.slice (some ⟨b,0,none⟩) 1 1) [l]:=
 ⟨[v],zB.of_blk (n:=1) hb rfl (by simp[maxLen]) (by intro u hu;simp at hu;subst hu;exact zB.one1 hl),hl,trivial⟩
theorem yJ.two{w:Wl}{b:Nat}{v u:Va}{l m:List Ent}(hb:zQ w b 176 [v,u])(hl:yF w v l)(hm:yF w u m):yJ w (.slice (some ⟨b,0,none⟩) 2 2) [l,m]:=
 ⟨[v,u],zB.of_blk (n:=2) hb rfl (by simp[maxLen]) (by intro x hx;simp at hx;rcases hx with rfl|rfl;exact zB.one1 hl;exact zB.one1 hm),hl,hm,trivial⟩
theorem f29(p:Nat)(ls:LE)(a b:Va)(la lb:List Ent)(i:Nat)(w:Wl)(hp:Pg w p ls)(ha:yF w a la)(hb:yF w b lb)(hi:i+2≤ls.length)(hb1:ls.length≤1048576)(hla:la.length≤1048576)(hlb:lb.length≤1048576) :
 zV TP 308 #[Pt p,Ii i,.agg #[a,b]] w fun r w'=>r=.tuple #[]∧Pg w' p (ls.take i++zga (la++lb)++ls.drop (i+2))∧zl [p] w w':=by
 have hal:=zB.len_xs ha
 have hbl:=zB.len_xs hb
 obtain⟨pa,ca,rfl,_⟩:=zB.val ha
 obtain⟨pb,cb,rfl,_⟩:=zB.val hb
 refine A3 Tryz.func308 U U ?_
 refine Sr ?_
 refine Ob U U ?_
 intro b5 w5 e5 n5 c5 k5
 refine E3 0 1 5 U (zf ?_)
 have hS:zho w 215 2 [.slice pa la.length ca,.slice pb lb.length cb] [flat la,flat lb]:=⟨by rw[hal,Nat.mul_div_cancel _ (by omega)];exact ha,by rw[hbl,Nat.mul_div_cancel _ (by omega)];exact hb,trivial⟩
 have hsum:zbW 2 [flat la,flat lb] 2=(la++lb).length:=by
  simp only[zbW,List.take_succ_cons,List.take_zero,List.map_cons,List.map_nil,List.sum_cons,List.sum_nil,hal,hbl,Nat.mul_div_cancel _ (show 0<2 by omega),List.length_append]
  omega
 have hll:(la++lb).length=la.length+lb.length:=by simp
 refine za ?_
 refine Og (zO zk3 zbV U U 0 U (by omega)) U ?_
 refine Ol zeu U (k5.cell' U) ?_
 refine Og (zO zk3 zbV U U 1 U (by omega)) U ?_
 refine Ol zeu U (k5.cell' U) ?_
 refine Oq (zA ziG U (vs:=[_,_]) U (css:=[_,_]) ⟨U,U,trivial⟩ U U (cs:=[_,_]) U U ?_)
 intro b12 w12 e12 n12 c12 k12
 refine Oc zzT U U U (f45 _ _ [flat la,flat lb] _ (zB.of_blk (n:=2) k12 U (by simp[maxLen]) (by intro u hu;simp at hu;rcases hu with rfl|rfl<;>rfl)) (hS.chg0 (c5.trans c12)) (by simp only[List.length_cons,List.length_nil];rw[hsum];omega) (by simp)) ?_
 rintro v13 w13⟨i13,n13,c13⟩
 have hboth:yF w13 v13 (la++lb):=by unfold yF;rw[zdR];simpa[hsum] using i13
 clear i13
 generalize la++lb=both at *
 obtain⟨p13,q13,rfl,hq13⟩:=zB.val hboth
 refine Oa U (E3 0 1 6 U ?_)
 have hc13:zl [] w w13:=(c5.trans c12).trans c13
 refine zf (Sr (Om U (On yB U (Og (za3 U U) U (E4 0 1 6 16 U ?_)))))
 refine zR U (fun hT=>?_) (fun hF=>?_)
 ·have hle:both.length≤8:=by have:=of_decide_eq_true hT;omega
  refine Sr (Om U (Om U (Om U ?_)))
  refine Og (yv (v':=Ii ((i+2:Nat):Int)) (zI U U (by omega)) (by congr 1)) U ?_
  refine Om U ?_
  refine Oq (zA ziG U (vs:=[_]) U (css:=[_]) ⟨U,trivial⟩ U U (cs:=[_]) U U ?_)
  intro b22 w22 e22 n22 c22 k22
  refine Oc zi9 U U U (f26 p ls [both] _ i (i+2) _ (hp.chg0 (hc13.trans c22)) (yJ.one k22 (hboth.chg0 c22)) (by omega) hi hb1 (by simp)) ?_
  rintro v23 w23⟨rfl,p23,c23⟩
  refine yT [] (F':=[]) U (zk ?_)
  refine zbN ?_
  refine zsx U ?_
  refine⟨U,?_,((hc13.trans c22).any (S:=[p])).transS c23⟩
  rw[zga,if_pos hle]
  exact p23
 have hle:¬ both.length≤8:=by have:=of_decide_eq_false hF;omega
 refine zn (Sr (Om U (On yB U ?_)))
 refine Og (yv (v':=Ii ((both.length / 2:Nat):Int)) (zs9 U U (by omega) (by omega)) (by congr 1)) U ?_
 refine Oa U (E4 0 1 6 7 U ?_)
 have hh:both.length / 2≤both.length:=Nat.div_le_self _ _
 refine zK (fun _=>True) mix (by kernel_rfl) trivial ?_
 refine Tm U (Tm U (Tm U ?_))
 refine Tp (fun _=>yv (v':=Ii ((i+2:Nat):Int)) (zI U U (by omega)) (by congr 1)) U ?_
 refine Tm U (Tm U (Tm U ?_))
 refine Tp (fun _=>zgq yB zav U U U _ _ U U (Nat.le_refl _) (by omega)) U ?_
 refine Tm U (Tm U ?_)
 refine Tp (fun _=>za8 yB zav U U _ U hh) U ?_
 refine zaM U (gn U) (zA ziG U (vs:=[_,_]) U (css:=[_,_]) ⟨U,U,trivial⟩ U U (cs:=[_,_]) U U ?_)
 intro b38 w38 e38 n38 c38 k38
 refine⟨.inl trivial,?_⟩
 have hc38:zl [] w13 w38:=(zl.drew [] w13).trans c38
 refine Tc zi9 U U U (f26 p ls [both.take (both.length / 2),both.drop (both.length / 2)] _ i (i+2) _ (hp.chg0 (hc13.trans hc38)) (yJ.two k38 ((hboth.chg0 hc38).cutL hh (Nat.le_refl _) (by omega)) ((hboth.chg0 hc38).cutR hh hq13)) (by omega) hi hb1 (by simp)) ?_
 rintro v39 w39⟨rfl,p39,c39⟩
 refine⟨.inl trivial,?_⟩
 refine zdz [] (F':=[]) U ?_
 refine zgD U ⟨U,?_,((hc13.trans hc38).any (S:=[p])).transS c39⟩
 rw[zga,if_neg hle]
 exact p39
end Go.Wk
